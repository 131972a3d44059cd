/- The reference's SHA-256: the sum in digits. -/
import Derived.Test.YtembdkodajichaaGreatDoorAmtQ
import Derived.Test.YtembdkodajichaaGreatDoorBechD
import Derived.Test.YtembdkodajichaaGreatDoorMRef
import Derived.Test.YtembdkodajichaaGreatDoorByteC
import Derived.Test.YtembdkodajichaaGreatDoorInvW
import Derived.Test.YtembdkodajichaaGreatDoorRegI
import Derived.Test.YtembdkodajichaaGreatDoorAppB
import Derived.StillTactics
import Derived.StillTailTactics
import Derived.Test.YtembdkodajichaaGreatDoorDigD
import Derived.Test.YtembdkodajichaaGreatDoorDigE
set_option linter.unusedSimpArgs false
set_option linter.unusedVariables false
set_option maxRecDepth 100000
set_option maxHeartbeats 4000000
namespace Go.Proofs.YtembdkodajichaaGreatDoor
open Go.RowKit
def wholeP (s : List UInt8) : Bool := s.all isDg && (s != [] && head s != 48)
def rdEnd (U : Nat) (d : List UInt8) : Int × Int := if maxMoney / U < decV d then (0, 40) else (((decV d * U : Nat) : Int), 0)
def bad3 (d : List UInt8) (c : UInt8) : Bool := !wholeP d || ((decide (3 < d.length) && (d.drop (d.length - 3) == [48, 48, 48])) || (c == 112 && d.getD (d.length - 1) 0 != 48))
theorem decV_take {d : List UInt8} {i : Nat} (h : i < d.length) : decV (d.take (i + 1)) = decV (d.take i) * 10 + ((d[i]).toNat - 48) := by
 rw [List.take_succ_eq_append_getElem h, decV_snoc]
theorem decV_ge (d : List UInt8) (i : Nat) : decV (d.take i) ≤ decV d := by
 have h : decV d = decA (decV (d.take i)) (d.drop i) := by
  unfold decV decA
  rw [← List.foldl_append, List.take_append_drop]
 rw [h]
 exact decA_ge _ _
theorem whole_bad {s : List UInt8} (h : wholeP s = false) : s = [] ∨ s.all isDg = false ∨ head s = 48 := by
 unfold wholeP at h
 simp only [Bool.and_eq_false_iff, bne_eq_false_iff_eq] at h
 rcases h with h | h | h
 · exact .inr (.inl h)
 · exact .inl h
 · exact .inr (.inr h)
theorem whole_ok {s : List UInt8} (h : wholeP s = true) : s ≠ [] ∧ s.all isDg = true ∧ head s ≠ 48 := by
 unfold wholeP at h
 simp only [Bool.and_eq_true, bne_iff_ne, ne_eq] at h
 exact ⟨h.2.1, h.1, h.2.2⟩
theorem readV_bad {s : List UInt8} (h : s ≠ []) (h2 : ∀ e nm, s = e ++ nm → (∀ x ∈ nm, nmB x = true) → e.all isDg = true → nm.length ≤ 1 → False) : readV s = (0, 70) := by
 obtain ⟨nm, e, hn⟩ := trimR_cut s
 have hdrop : s.drop (trimR s).length = nm := by
  conv => lhs; rw [e]
  rw [List.drop_left' (by rw [← e])]
 unfold readV
 rw [if_neg h, hdrop]
 unfold readG
 by_cases ha : (trimR s).all isDg = true
 · by_cases hl : nm.length ≤ 1
   · exact (h2 _ _ e hn ha hl).elim
   · rw [if_pos (.inr (.inr (.inr (.inl om_))))]
 · rw [if_pos (.inr (.inl (by simpa using ha)))]
theorem nm_dg {c : UInt8} (h : isDg c = true) : nmB c = false := by
 have := dg_val h
 unfold isDg at h
 simp only [Bool.and_eq_true, decide_eq_true_eq] at h
 unfold nmB
 simp only [Bool.or_eq_false_iff, beq_eq_false_iff_ne, ne_eq, ← UInt8.toNat_inj]
 simp
 omega
theorem snoc_cut {d e nm : List UInt8} {c : UInt8} (h : d ++ [c] = e ++ nm) (h0 : nm ≠ []) : c ∈ nm := by
 obtain ⟨l, x, rfl⟩ : ∃ l x, nm = l ++ [x] := ⟨nm.dropLast, nm.getLast h0, (List.dropLast_concat_getLast h0).symm⟩
 rw [← List.append_assoc] at h
 have := List.append_inj_right' h rfl
 simp at this
 simp [this]
theorem readV_dig (d : List UInt8) (c : UInt8) (hc : isDg c = true) : readV (d ++ [c]) = if wholeP (d ++ [c]) = true then rdEnd 100000000000 (d ++ [c]) else (0, 70) := by
 by_cases ha : (d ++ [c]).all isDg = true
 · have h := readV_app (d ++ [c]) [] ha si_ si_
   rw [List.append_nil] at h
   rw [h]
   unfold readG
   cases hw : wholeP (d ++ [c]) with
   | true =>
     obtain ⟨h1, h2, h3⟩ := whole_ok hw
     rw [if_neg, if_neg si_, if_pos rfl]
     · rfl
     · rintro (h | h | h | h | h)
       · exact h1 h
       · rw [h2] at h; cases h
       · exact h3 h
       · simp at h
       · exact h.1 rfl
   | false =>
     rw [if_pos, if_neg si_]
     rcases whole_bad hw with h | h | h
     · exact .inl h
     · exact .inr (.inl h)
     · exact .inr (.inr (.inl h))
 · rw [if_neg (fun h => ha (whole_ok h).2.1)]
   refine readV_bad si_ fun e nm he hn hd _ => ?_
   by_cases h0 : nm = []
   · subst h0
     rw [List.append_nil] at he
     rw [he] at ha
     exact ha hd
   · have := hn c (snoc_cut he h0)
     rw [nm_dg hc] at this
     cases this
theorem readV_odd (d : List UInt8) (c : UInt8) (hc : isDg c = false) (hn : nmB c = false) : readV (d ++ [c]) = (0, 70) := by
 refine readV_bad si_ fun e nm he hnm hd _ => ?_
 by_cases h0 : nm = []
 · subst h0
   rw [List.append_nil] at he
   rw [← he, List.all_append, Bool.and_eq_true] at hd
   simp [hc] at hd
 · have := hnm c (snoc_cut he h0)
   rw [hn] at this
   cases this
theorem ends3 {d : List UInt8} (h0 : d ≠ []) (hh : head d ≠ 48) : endsW d [48, 48, 48] = (decide (3 < d.length) && (d.drop (d.length - 3) == [48, 48, 48])) := by
 rw [Bool.eq_iff_iff]
 unfold endsW
 rw [List.isSuffixOf_iff_suffix, List.suffix_iff_eq_drop]
 simp only [Bool.and_eq_true, decide_eq_true_eq, beq_iff_eq, List.length_cons, List.length_nil]
 constructor
 · intro h
   refine ⟨?_, h.symm⟩
   by_cases hl : 3 < d.length
   · exact hl
   · exfalso
     rw [show d.length - (0 + 1 + 1 + 1) = 0 by omega, List.drop_zero] at h
     rw [← h] at hh
     exact hh rfl
 · intro h
   exact h.2.symm
theorem ends1 {d : List UInt8} (h0 : d ≠ []) : endsW d [48] = (d.getD (d.length - 1) 0 == 48) := by
 obtain ⟨l, x, rfl⟩ : ∃ l x, d = l ++ [x] := ⟨d.dropLast, d.getLast h0, (List.dropLast_concat_getLast h0).symm⟩
 unfold endsW
 rw [Bool.eq_iff_iff, List.isSuffixOf_iff_suffix, List.suffix_iff_eq_drop, beq_iff_eq]
 simp
 exact eq_comm
theorem readV_let (d : List UInt8) (c : UInt8) (hc : nmB c = true) : readV (d ++ [c]) = if bad3 d c = true then (0, 70) else rdEnd (unitOf [c]) (coreD d [c]) := by
 by_cases ha : d.all isDg = true
 · rw [readV_app d [c] ha (by simpa using hc) si_]
   unfold readG bad3
   cases hw : wholeP d with
   | false =>
     rw [if_pos, if_pos si_]
     rcases whole_bad hw with h | h | h
     · exact .inl h
     · exact .inr (.inl h)
     · exact .inr (.inr (.inl h))
   | true =>
     obtain ⟨h1, h2, h3⟩ := whole_ok hw
     rw [← ends3 h1 h3]
     cases h5 : endsW d [48, 48, 48] with
     | true => rw [if_pos (.inr (.inr (.inr (.inr ⟨by simp, rfl⟩)))), if_pos si_]
     | false =>
       rw [if_neg]
       · by_cases hp : c = 112
         · subst hp
           rw [ends1 h1]
           cases hq : d.getD (d.length - 1) 0 == 48 with
           | false =>
             have hq2 : (d.getD (d.length - 1) 0 != 48) = true := by rw [bne, hq]; rfl
             rw [if_pos ⟨rfl, rfl⟩, hq2, if_pos si_]
           | true =>
             have hq2 : (d.getD (d.length - 1) 0 != 48) = false := by rw [bne, hq]; rfl
             rw [if_neg si_, hq2]
             exact (if_neg (c := (!true || (false || (112 : UInt8) == 112 && false)) = true) si_).symm
         · rw [if_neg (by simp [hp])]
           exact (if_neg (c := (!true || (false || c == 112 && d.getD (d.length - 1) 0 != 48)) = true) (by simp [hp])).symm
       · rintro (h | h | h | h | h)
         · exact h1 h
         · rw [h2] at h; cases h
         · exact h3 h
         · simp at h
         · exact absurd h.2 si_
 · have hw : bad3 d c = true := by
    unfold bad3
    have : wholeP d = false := by
     cases hw : wholeP d with
     | false => rfl
     | true => exact absurd (whole_ok hw).2.1 ha
    rw [this]
    rfl
   rw [if_pos hw]
   refine readV_bad si_ fun e nm he hnm hd hl => ?_
   match nm, hl with
   | [], _ =>
     rw [List.append_nil] at he
     rw [← he, List.all_append, Bool.and_eq_true] at hd
     exact ha hd.1
   | [x], _ =>
     have h := List.append_inj_left' he rfl
     rw [h] at ha
     exact ha hd
   | _ :: _ :: _, h => simp at h
theorem core_whole {d : List UInt8} {c : UInt8} (h : bad3 d c = false) : wholeP d = true ∧ wholeP (coreD d [c]) = true := by
 unfold bad3 at h
 simp only [Bool.or_eq_false_iff, Bool.not_eq_false'] at h
 refine ⟨h.1, ?_⟩
 unfold coreD
 by_cases hp : c = 112
 · subst hp
   rw [if_pos rfl]
   have h2 := h.2.2
   obtain ⟨h1, h3, h4⟩ := whole_ok h.1
   obtain ⟨l, x, rfl⟩ : ∃ l x, d = l ++ [x] := ⟨d.dropLast, d.getLast h1, (List.dropLast_concat_getLast h1).symm⟩
   simp at h2
   subst h2
   rw [List.dropLast_concat]
   cases l with
   | nil => exact absurd rfl h4
   | cons a b =>
     unfold wholeP
     rw [List.all_append, Bool.and_eq_true] at h3
     have h5 : a ≠ 48 := h4
     rw [h3.1]
     simp [head, h5]
 · rw [if_neg (by simp [hp])]
   exact h.1
theorem run_conv1_at {P : Program} {W : World} {b : Nat} {src dst e : TypeId} {x : Int} (hb : W.heap[b]? = some (.cells #[.int .u8 x] e (0, 0))) (hs : P.underlying src = some (.slice e)) (he : P.underlying e = some (.int .u8)) (hd : P.underlying dst = some .string)
  (h0 : 0 ≤ x) (h1 : x < 256) :
  (convert src dst (.slice (some ⟨b, 0, none⟩) 1 1)).run P W = .ok (.string (bs [UInt8.ofNat x.toNat])) W := by
 have e1 : ((UInt8.ofNat x.toNat).toNat : Int) = x := by
  rw [UInt8.toNat_ofNat']; omega
 have h := run_convert_bytes_back (P := P) W src dst e ⟨b, 0, none⟩ 1 [UInt8.ofNat x.toNat] hs he hd (by
  intro j hj
  have : j = 0 := by simpa using hj
  subst this
  simp only [List.getElem_cons_zero, e1]
  exact blk_cell hb 0)
 exact h
theorem getD_at {l : List UInt8} {i : Nat} (h : i < l.length) : l.getD i 0 = l[i] := by rw [List.getD_eq_getElem?_getD, List.getElem?_eq_getElem h]; rfl
theorem ref7Digits0 (n : Nat) : ∀ (x : Int) (_ : x = n) (_ : n ≤ 9223372036854775807) (w : World),
  Calls Tryz.prog 28 #[.int .i64 x] w fun e w' => e = .returned (.string (bs (Lib.decDigits n))) ∧ Below w.heap.size w w' := by
 induction n using Nat.strongRecOn with
 | ind n ih =>
   intro x hx hn w
   subst hx
   have H : Hid (Lib.decDigits n = if n < 10 then [UInt8.ofNat (48 + n)] else Lib.decDigits (n / 10) ++ [UInt8.ofNat (48 + n % 10)]) := by
    show Lib.decDigits n = _
    rw [Lib.decDigits]
    split <;> rfl
   by_cases h : n ≤ 9
   · clear ih
     have h' : decide ((n : Int) < 10) = true := by simp; omega
     have kc := fun (w : World) => run_conv1 (P := Tryz.prog) w 47 9 5 (48 + (n : Int)) Tryz.underlying47 Tryz.underlying5 Tryz.underlying9 om_ om_
     go_enter Tryz.func28, Tryz.ntmps28
     go_wp2_with fail
     exact bodyPost_ret (v := .string (bs [UInt8.ofNat (48 + n)])) (by simp [results, Tryz.results28, go_sem]) rfl ⟨by rw [H.out, if_pos om_], bl_⟩
   · have h' : decide ((n : Int) < 10) = false := by simp; omega
     have kc := fun (w : World) => run_conv1 (P := Tryz.prog) w 47 9 5 (48 + (n : Int) % 10) Tryz.underlying47 Tryz.underlying5 Tryz.underlying9 om_ om_
     have hlen : (Lib.decDigits (n / 10)).length ≤ 20 := dec_len20 _ om_
     have hq : (n : Int).tdiv 10 = (n : Int) / 10 := Int.tdiv_eq_ediv_of_nonneg om_
     have hr : (n : Int).tmod 10 = (n : Int) % 10 := Int.tmod_eq_emod_of_nonneg om_
     go_enter Tryz.func28, Tryz.ntmps28
     have hw8 : IntKind.u8.wrap ((n : Int) % 10) = (n : Int) % 10 := by rw [IntKind.wrap_u8]; omega
     have hw9 : IntKind.u8.wrap (48 + (n : Int) % 10) = 48 + (n : Int) % 10 := by rw [IntKind.wrap_u8]; omega
     have hx0 : (0 : Int) ≤ 48 + (n : Int) % 10 := by omega
     have hx1 : 48 + (n : Int) % 10 < 256 := by omega
     have kdr : (convert 47 9 (.slice (some ⟨w.heap.size, 0, none⟩) 1 1)).run Tryz.prog (w.alloc (.cells #[.int .u8 (48 + (n : Int) % 10)] 5)).drew = .ok (.string (bs [UInt8.ofNat (48 + (n : Int) % 10).toNat])) (w.alloc (.cells #[.int .u8 (48 + (n : Int) % 10)] 5)).drew := run_conv1_at (blk_drew (blk_new w _)) Tryz.underlying47 Tryz.underlying5 Tryz.underlying9 hx0 hx1
     go_wp2_with fail
     go_region_with (go_at_call 28; refine (ih (n / 10) om_ _ (by first | omega | (rw [IntKind.wrap_i64]; omega)) om_ _).mono ?_; rintro e w1 ⟨rfl, hb⟩; (first | (have kd : (convert 47 9 (.slice (some ⟨w.heap.size, 0, none⟩) 1 1)).run Tryz.prog w1 = .ok (.string (bs [UInt8.ofNat (48 + (n : Int) % 10).toNat])) w1 := run_conv1_at (blk_below (blk_drew (blk_new _ _)) hb si_) Tryz.underlying47 Tryz.underlying5 Tryz.underlying9 hx0 hx1) | skip))
     all_goals go_wp2_with fail
     all_goals exact bodyPost_ret (v := .string (bs (Lib.decDigits (n / 10) ++ [UInt8.ofNat (48 + n % 10)]))) (by simp [results, Tryz.results28, go_sem]) rfl ⟨by rw [H.out, if_neg om_], bl_⟩
theorem ref7Digits (x : Int) (h0 : 0 ≤ x) (h1 : x ≤ 9223372036854775807) (w : World) :
  Calls Tryz.prog 28 #[.int .i64 x] w fun e w' => e = .returned (.string (bs (Lib.decDigits x.toNat))) ∧ Below w.heap.size w w' :=
 ref7Digits0 x.toNat x om_ om_ w
theorem bytes_ne (a b : UInt8) : (((a.toNat : Int)) != (b.toNat : Int)) = (a != b) := by
 rw [Bool.eq_iff_iff, bne_iff_ne, bne_iff_ne, ne_eq, ne_eq, Int.ofNat_inj, UInt8.toNat_inj]
theorem amountT_no7 {m : Int} (h : m < 0 ∨ 2100000000000000000 < m) : amountT m = [] ∧ amountE m = 40 := by
 constructor
 · unfold amountT; rw [if_pos (by unfold maxMoney; omega)]
 · unfold amountE; rw [if_pos (by unfold maxMoney; omega)]
theorem amountE_ok7 {m : Int} (h0 : 0 ≤ m) (h1 : m ≤ 2100000000000000000) : amountE m = 0 := by unfold amountE; rw [if_neg (by unfold maxMoney; omega)]
theorem amountT_go7 {m : Nat} (h0 : 0 < m) (h1 : m ≤ 2100000000000000000) : amountT (m : Int) = amtGo m unitL := by
 unfold amountT
 rw [if_neg (by unfold maxMoney; omega)]
 rfl
theorem all_no {s : List UInt8} {i : Nat} (hi : i < s.length) (h : isDg s[i] = false) : s.all isDg = false := by
 rw [List.all_eq_false]
 exact ⟨s[i], List.getElem_mem hi, by rw [h]; simp⟩
theorem all_yes {s : List UInt8} (h : ∀ j, (hj : j < s.length) → isDg s[j] = true) : s.all isDg = true := by
 rw [List.all_eq_true]
 intro x hx
 obtain ⟨j, hj, rfl⟩ := List.getElem_of_mem hx
 exact h j hj
theorem ref7Whole (s : List UInt8) (hs : s.length ≤ 1000000) (w : World) :
  Calls Tryz.prog 34 #[.string (bs s)] w fun e w' => e = .returned (.bool (wholeP s)) ∧ w' = w := by
 go_enter Tryz.func34, Tryz.ntmps34
 go_wp2_with fail
 go_loopw [3] (fun iv wr => ∃ i : Nat, i ≤ s.length ∧ iv = .int .i64 i ∧ Hid (∀ j, (hj : j < s.length) → j < i → isDg s[j] = true) ∧ Hid (wr = w)) (fun iv _ => s.length - (intOf iv).toNat)
 case atStart => exact ⟨0, by omega, rfl, Lib.hid (fun j _ h => by omega), Lib.hid rfl⟩
 case round =>
  obtain ⟨i, hi, rfl, HA, hw⟩ := hrel
  obtain rfl := hw.out
  clear hw
  by_cases hlt : i < s.length
  · have hix : ∀ W, (Instr.index 9 (.string (bs s)) (.int .i64 (i : Int))).run Tryz.prog W = .ok (.int .u8 ((s[i]).toNat : Nat)) W := fun W => by rw [index_strK W .i64 s i hlt, getD_at hlt]
    have hi0 : (0 : Int) ≤ i := by omega
    cases hd : isDg s[i] with
    | false =>
      have HW : Hid (wholeP s = false) := Lib.hid (by unfold wholeP; rw [all_no hlt hd]; rfl)
      have hcase : s[i].toNat < 48 ∨ 57 < s[i].toNat := by
       unfold isDg at hd
       simp only [Bool.and_eq_false_iff, decide_eq_false_iff_not] at hd
       omega
      clear hd HA
      generalize s[i].toNat = c at *
      rcases hcase with hc | hc
      · have h1 : decide ((c : Int) < 48) = true := by simp; omega
        go_wp2_with fail
        exact bodyPost_ret (v := .bool false) (by simp [results, Tryz.results34, go_sem]) rfl ⟨by rw [HW.out], rfl⟩
      · have h1 : decide ((c : Int) < 48) = false := by simp; omega
        have h2 : decide ((57 : Int) < c) = true := by simp; omega
        go_wp2_with fail
        exact bodyPost_ret (v := .bool false) (by simp [results, Tryz.results34, go_sem]) rfl ⟨by rw [HW.out], rfl⟩
    | true =>
      have HA2 : Hid (∀ j, (hj : j < s.length) → j < i + 1 → isDg s[j] = true) := Lib.hid (fun j hj h => by
       by_cases e : j = i
       · subst e; exact hd
       · exact HA.out j hj om_)
      have hcase : 48 ≤ s[i].toNat ∧ s[i].toNat ≤ 57 := by simpa [isDg] using hd
      clear hd HA
      generalize s[i].toNat = c at *
      have h1 : decide ((c : Int) < 48) = false := by simp; omega
      have h2 : decide ((57 : Int) < c) = false := by simp; omega
      go_wp2_with fail
      exact ⟨⟨i + 1, by omega, by go_num, HA2, Lib.hid trivial⟩, by simp [intOf]; omega⟩
  · obtain rfl : i = s.length := by omega
    have hall := all_yes (fun j hj => HA.out j hj hj)
    clear HA
    by_cases h0 : s = []
    · subst h0
      go_wp2_with fail
      exact bodyPost_ret (v := .bool false) (by simp [results, Tryz.results34, go_sem]) rfl ⟨rfl, rfl⟩
    · have hlen : 0 < s.length := List.length_pos_iff.2 h0
      have hix : ∀ W, (Instr.index 9 (.string (bs s)) (.int .i64 0)).run Tryz.prog W = .ok (.int .u8 ((head s).toNat : Nat)) W := fun W => by
       have h := index_strK W .i64 s 0 hlen
       cases s with
       | nil => exact absurd rfl h0
       | cons a r => exact h
      have HW : Hid (wholeP s = (head s != 48)) := Lib.hid (by unfold wholeP; rw [hall, show (s != []) = true by simpa using h0]; simp)
      have h48 : (((head s).toNat : Int) != 48) = (head s != 48) := bytes_ne (head s) 48
      have hem : s.isEmpty = false := by simpa using h0
      clear hall
      go_wp2_with fail
      exact bodyPost_ret (v := .bool (head s != 48)) (by simp [results, Tryz.results34, go_sem, h48, hem]) rfl ⟨by rw [HW.out], rfl⟩
def unit7 : Array Value := #[.int .i64 100000000000, .int .i64 100000000, .int .i64 100000, .int .i64 100]
def name7 : Array Value := #[.string (bs []), .string (bs [109]), .string (bs [117]), .string (bs [110])]
theorem ref7Amount (m : Int) (hm0 : -9223372036854775808 ≤ m) (hm1 : m ≤ 9223372036854775807) (w : World) :
  Calls Tryz.prog 11 #[.int .i64 m] w fun e w' => e = .returned (.tuple #[.string (bs (amountT m)), .int .i64 (amountE m)]) ∧ Below w.heap.size w w' := by
 by_cases hbad : m < 0 ∨ 2100000000000000000 < m
 · have HA := Lib.hid (amountT_no7 hbad)
   rcases hbad with h | h
   · go_enter Tryz.func11, Tryz.ntmps11
     go_wp2_with fail
     exact bodyPost_ret (v := .tuple #[.string (bs []), .int .i64 40]) (by simp [results, Tryz.results11, go_sem]) rfl ⟨by rw [HA.out.1, HA.out.2], bl_⟩
   · go_enter Tryz.func11, Tryz.ntmps11
     go_wp2_with fail
     exact bodyPost_ret (v := .tuple #[.string (bs []), .int .i64 40]) (by simp [results, Tryz.results11, go_sem]) rfl ⟨by rw [HA.out.1, HA.out.2], bl_⟩
 · by_cases hz : m = 0
   · subst hz
     go_enter Tryz.func11, Tryz.ntmps11
     go_wp2_with fail
     go_ret2
     exact ⟨rfl, bl_⟩
   · obtain ⟨n, rfl⟩ : ∃ n : Nat, m = n := ⟨m.toNat, by omega⟩
     have hn0 : 0 < n := by omega
     have hn1 : n ≤ 2100000000000000000 := by omega
     have HE := Lib.hid (amountE_ok7 om_ om_ : amountE (n : Int) = 0)
     have HT := Lib.hid (amountT_go7 hn0 hn1)
     have p0 : (0 : Int) < n := by omega
     have p1 : (n : Int) ≤ 2100000000000000000 := by omega
     clear hbad hz hm0 hm1
     go_enter Tryz.func11, Tryz.ntmps11
     go_wp2_with fail
     have HU0 : Hid (((w.alloc (.cells unit7 2)).alloc (.cells name7 9)).heap[w.heap.size]? = some (.cells unit7 2 (0, 0))) := Lib.hid (blk_alloc (blk_new _ _) _)
     have HN0 : Hid (((w.alloc (.cells unit7 2)).alloc (.cells name7 9)).heap[w.heap.size + 1]? = some (.cells name7 9 (0, 0))) := Lib.hid (by have := blk_new (w.alloc (.cells unit7 2)) (.cells name7 9); rwa [World.size_alloc] at this)
     have HG0 : Hid (GL [] w ((w.alloc (.cells unit7 2)).alloc (.cells name7 9))) := Lib.hid (gl_alloc (gl_alloc (gl_refl _ _) _) _)
     unfold unit7 name7 at HU0 HN0 HG0
     generalize (w.alloc (.cells #[.int .i64 100000000000, .int .i64 100000000, .int .i64 100000, .int .i64 100] 2)).alloc (.cells #[.string (bs []), .string (bs [109]), .string (bs [117]), .string (bs [110])] 9) = w0 at *
     go_loopw [6] (fun iv wr => ∃ i : Nat, i ≤ 4 ∧ iv = .int .i64 i ∧ Hid (amtGo n unitL = amtGo n (unitL.drop i)) ∧ Hid (wr = w0)) (fun iv _ => 4 - (intOf iv).toNat)
     case atStart => exact ⟨0, by omega, rfl, Lib.hid rfl, Lib.hid rfl⟩
     case round =>
      obtain ⟨i, hi, rfl, hgo, hw⟩ := hrel
      obtain rfl := hw.out
      clear hw
      have fu := blk_cell HU0.out
      have fn := blk_cell HN0.out
      rcases (by omega : i = 0 ∨ i = 1 ∨ i = 2 ∨ i = 3 ∨ i = 4) with rfl | rfl | rfl | rfl | rfl
      · by_cases hd : n % 100000000000 = 0
        · have HTX : Hid (amountT (n : Int) = Lib.decDigits (n / 100000000000) ++ []) := Lib.hid (by rw [HT.out, hgo.out]; exact if_pos hd)
          have hdl : (Lib.decDigits (n / 100000000000)).length ≤ 20 := dec_len20 _ om_
          have hbt : (((n : Int) % 100000000000) == 0) = true := by simp; omega
          go_wp2_with fail
          go_region_with (go_at_call 28; refine (ref7Digits0 (n / 100000000000) _ (by first | omega | (rw [IntKind.wrap_i64]; omega)) om_ _).mono ?_; rintro e w2 ⟨rfl, hb2⟩; have k0 := blk_cell (blk_below (blk_drew HN0.out) hb2 (blk_lt (blk_drew HN0.out))); have k1 := blk_cell (blk_below (blk_drew HU0.out) hb2 (blk_lt (blk_drew HU0.out))))
          all_goals go_wp2_with fail
          all_goals exact bodyPost_ret (v := .tuple #[.string (bs (Lib.decDigits (n / 100000000000) ++ [])), .int .i64 0]) (by simp [results, Tryz.results11, go_sem]) rfl ⟨by rw [HTX.out, HE.out], gl_to_below (gl_below hb2 (gl_drew HG0.out))⟩
        · have hbt : (((n : Int) % 100000000000) == 0) = false := by simp; omega
          have HTX : Hid (amtGo n unitL = amtGo n (unitL.drop 1)) := Lib.hid (by rw [hgo.out]; exact if_neg hd)
          go_wp2_with fail
          exact ⟨⟨1, by omega, by first | rfl | (simp; done), HTX, by first | exact Lib.hid rfl | exact Lib.hid trivial⟩, by first | (simp [intOf]; done) | (simp [intOf]; omega)⟩
      · by_cases hd : n % 100000000 = 0
        · have HTX : Hid (amountT (n : Int) = Lib.decDigits (n / 100000000) ++ [109]) := Lib.hid (by rw [HT.out, hgo.out]; exact if_pos hd)
          have hdl : (Lib.decDigits (n / 100000000)).length ≤ 20 := dec_len20 _ om_
          have hbt : (((n : Int) % 100000000) == 0) = true := by simp; omega
          go_wp2_with fail
          go_region_with (go_at_call 28; refine (ref7Digits0 (n / 100000000) _ (by first | omega | (rw [IntKind.wrap_i64]; omega)) om_ _).mono ?_; rintro e w2 ⟨rfl, hb2⟩; have k0 := blk_cell (blk_below (blk_drew HN0.out) hb2 (blk_lt (blk_drew HN0.out))); have k1 := blk_cell (blk_below (blk_drew HU0.out) hb2 (blk_lt (blk_drew HU0.out))))
          all_goals go_wp2_with fail
          all_goals exact bodyPost_ret (v := .tuple #[.string (bs (Lib.decDigits (n / 100000000) ++ [109])), .int .i64 0]) (by simp [results, Tryz.results11, go_sem]) rfl ⟨by rw [HTX.out, HE.out], gl_to_below (gl_below hb2 (gl_drew HG0.out))⟩
        · have hbt : (((n : Int) % 100000000) == 0) = false := by simp; omega
          have HTX : Hid (amtGo n unitL = amtGo n (unitL.drop 2)) := Lib.hid (by rw [hgo.out]; exact if_neg hd)
          go_wp2_with fail
          exact ⟨⟨2, by omega, by first | rfl | (simp; done), HTX, by first | exact Lib.hid rfl | exact Lib.hid trivial⟩, by first | (simp [intOf]; done) | (simp [intOf]; omega)⟩
      · by_cases hd : n % 100000 = 0
        · have HTX : Hid (amountT (n : Int) = Lib.decDigits (n / 100000) ++ [117]) := Lib.hid (by rw [HT.out, hgo.out]; exact if_pos hd)
          have hdl : (Lib.decDigits (n / 100000)).length ≤ 20 := dec_len20 _ om_
          have hbt : (((n : Int) % 100000) == 0) = true := by simp; omega
          go_wp2_with fail
          go_region_with (go_at_call 28; refine (ref7Digits0 (n / 100000) _ (by first | omega | (rw [IntKind.wrap_i64]; omega)) om_ _).mono ?_; rintro e w2 ⟨rfl, hb2⟩; have k0 := blk_cell (blk_below (blk_drew HN0.out) hb2 (blk_lt (blk_drew HN0.out))); have k1 := blk_cell (blk_below (blk_drew HU0.out) hb2 (blk_lt (blk_drew HU0.out))))
          all_goals go_wp2_with fail
          all_goals exact bodyPost_ret (v := .tuple #[.string (bs (Lib.decDigits (n / 100000) ++ [117])), .int .i64 0]) (by simp [results, Tryz.results11, go_sem]) rfl ⟨by rw [HTX.out, HE.out], gl_to_below (gl_below hb2 (gl_drew HG0.out))⟩
        · have hbt : (((n : Int) % 100000) == 0) = false := by simp; omega
          have HTX : Hid (amtGo n unitL = amtGo n (unitL.drop 3)) := Lib.hid (by rw [hgo.out]; exact if_neg hd)
          go_wp2_with fail
          exact ⟨⟨3, by omega, by first | rfl | (simp; done), HTX, by first | exact Lib.hid rfl | exact Lib.hid trivial⟩, by first | (simp [intOf]; done) | (simp [intOf]; omega)⟩
      · by_cases hd : n % 100 = 0
        · have HTX : Hid (amountT (n : Int) = Lib.decDigits (n / 100) ++ [110]) := Lib.hid (by rw [HT.out, hgo.out]; exact if_pos hd)
          have hdl : (Lib.decDigits (n / 100)).length ≤ 20 := dec_len20 _ om_
          have hbt : (((n : Int) % 100) == 0) = true := by simp; omega
          go_wp2_with fail
          go_region_with (go_at_call 28; refine (ref7Digits0 (n / 100) _ (by first | omega | (rw [IntKind.wrap_i64]; omega)) om_ _).mono ?_; rintro e w2 ⟨rfl, hb2⟩; have k0 := blk_cell (blk_below (blk_drew HN0.out) hb2 (blk_lt (blk_drew HN0.out))); have k1 := blk_cell (blk_below (blk_drew HU0.out) hb2 (blk_lt (blk_drew HU0.out))))
          all_goals go_wp2_with fail
          all_goals exact bodyPost_ret (v := .tuple #[.string (bs (Lib.decDigits (n / 100) ++ [110])), .int .i64 0]) (by simp [results, Tryz.results11, go_sem]) rfl ⟨by rw [HTX.out, HE.out], gl_to_below (gl_below hb2 (gl_drew HG0.out))⟩
        · have hbt : (((n : Int) % 100) == 0) = false := by simp; omega
          have HTX : Hid (amtGo n unitL = amtGo n (unitL.drop 4)) := Lib.hid (by rw [hgo.out]; exact if_neg hd)
          go_wp2_with fail
          exact ⟨⟨4, by omega, by first | rfl | (simp; done), HTX, by first | exact Lib.hid rfl | exact Lib.hid trivial⟩, by first | (simp [intOf]; done) | (simp [intOf]; omega)⟩
      · have HTX : Hid (amountT (n : Int) = Lib.decDigits n ++ [48, 112]) := Lib.hid (by rw [HT.out, hgo.out]; rfl)
        have hdl : (Lib.decDigits n).length ≤ 20 := dec_len20 _ om_
        go_wp2_with fail
        refine (ref7Digits0 n _ om_ om_ _).mono ?_
        rintro e w2 ⟨rfl, hb2⟩
        go_wp2_with fail
        exact bodyPost_ret (v := .tuple #[.string (bs (Lib.decDigits n ++ [48, 112])), .int .i64 0]) (by simp [results, Tryz.results11, go_sem]) rfl ⟨by rw [HTX.out, HE.out], gl_to_below (gl_below hb2 HG0.out)⟩
def wL (l : List Int) : List Value := l.map fun x => .int .u32 x
theorem wL_len (l : List Int) : (wL l).length = l.length := by simp [wL]
theorem Tryz.infoW4 : (Tryz.prog.info? 121).map (fun i => (i.zero, i.size, i.bytes)) = some (some (.int .u32 0), 1, 4) := by kernel_rfl
def OwnW (lo : Nat) (v : Value) (l : List Int) (w : World) : Prop := w.ownsRow lo 121 1 v l.length (wL l)
theorem ownW_nil (lo : Nat) (w : World) : OwnW lo (.slice none 0 0) [] w := World.ownsRow_nil _ _ _ _
theorem ownW_form {lo : Nat} {v : Value} {l : List Int} {w : World} (h : OwnW lo v l w) : ∃ ad c, v = .slice ad l.length c := by
 obtain ⟨ad, m, c, rfl⟩ := own_slice h
 have := own_len h
 subst this
 exact ⟨ad, c, rfl⟩
theorem ownW_gl {lo : Nat} {v : Value} {l : List Int} {rs : List Nat} {w w' : World} (h : OwnW lo v l w) (hg : GL rs w w') (hr : ∀ r ∈ rs, v.ownBlock ≠ some r) : OwnW lo v l w' := own_gl h hg hr
def InW (v : Value) (l : List Int) (w : World) : Prop := ∃ g c, v = .slice (some ⟨g, 0, none⟩) l.length c ∧ l.length ≤ c ∧ g < w.heap.size ∧ ∀ j, (hj : j < l.length) → w.cell? ⟨g, j, none⟩ = some (.int .u32 l[j])
theorem ownW_in {lo : Nat} {v : Value} {l : List Int} {w : World} (h : OwnW lo v l w) (h0 : l ≠ []) : InW v l w := by
 have hpos := List.length_pos_iff.2 h0
 obtain ⟨g, cap, hv, hg1, hg2, hc1, hc2, hcell⟩ := own_cells h hpos
 refine ⟨g, cap, hv, hc1, hg2, fun j hj => hcell j _ ?_⟩
 unfold wL
 rw [List.getElem?_map, List.getElem?_eq_getElem hj]
 rfl
theorem inW_gl {v : Value} {l : List Int} {w w' : World} (h : InW v l w) (hg : GL [] w w') : InW v l w' := by
 obtain ⟨g, c, hv, hc, hlt, hcell⟩ := h
 refine ⟨g, c, hv, hc, Nat.lt_of_lt_of_le hlt hg.size, fun j hj => ?_⟩
 have := hcell j hj
 simp only [World.cell?, hg.block _ hlt si_] at this ⊢
 exact this
theorem run_appW1 (lo : Nat) (v : Value) (l : List Int) (X Y : Int) (hX : X = Y) (w0 w : World) (hw : w = (w0.alloc (.cells #[.int .u32 X] 121)).drew ∨ w = w0.alloc (.cells #[.int .u32 X] 121)) (hown : OwnW lo v l w0) (hlen : l.length ≤ 100000) (hlo : lo ≤ w0.heap.size) :
  ∃ g cap w', (Builtin.append_ #[166, 166] 166 #[v, .slice (some ⟨w0.heap.size, 0, none⟩) 1 1]).run Tryz.prog w = .ok (.slice (some ⟨g, 0, none⟩) (l.length + 1) cap) w' ∧
   OwnW lo (.slice (some ⟨g, 0, none⟩) (l.length + 1) cap) (l ++ [Y]) w' ∧ GL v.ownBlock.toList w0 w' ∧ (v.ownBlock = some g ∨ w0.heap.size < g) ∧ g < w'.heap.size := by
 subst hX
 have hown2 : OwnW lo v l w := by
  rcases hw with rfl | rfl
  · exact (own_alloc hown _).drew
  · exact own_alloc hown _
 have hsz : w.heap.size = w0.heap.size + 1 := by rcases hw with rfl | rfl <;> simp
 have hcl : w.cell? ⟨w0.heap.size, 0, none⟩ = some (.int .u32 X) := by
  rcases hw with rfl | rfl
  · exact blk_cell (blk_drew (blk_new w0 (.cells #[.int .u32 X] 121))) 0
  · exact blk_cell (blk_new w0 (.cells #[.int .u32 X] 121)) 0
 have hg0 : GL [] w0 w := by
  rcases hw with rfl | rfl
  · exact gl_drew (gl_alloc (gl_refl _ _) _)
  · exact gl_alloc (gl_refl _ _) _
 obtain ⟨t0, ht0, ht1, ht2, ht3⟩ := info_parts Tryz.infoW4
 obtain ⟨g, cap, w', h1, h2, h3, h4, h5⟩ := run_append_lies (P := Tryz.prog) (w := w) 166 166 lo 121 t0 (.int .u32 0) 1 4 Tryz.underlying166 ht0 ht1 ht2 ht3 rfl de_ v l.length (wL l) hown2 ⟨w0.heap.size, 0, none⟩ 1 1 (wL [X]) (by rw [wL_len]; rfl) (fun j u hj => by
  have h0 : j < 1 := by
   have := (List.getElem?_eq_some_iff.1 hj).1
   simpa [wL] using this
  obtain rfl : j = 0 := by omega
  simp [wL] at hj
  subst hj
  exact hcl) (fun x hx => by
  unfold wL at hx
  obtain ⟨y, _, rfl⟩ := List.mem_map.1 hx
  rfl) om_ (by unfold maxLen; omega) om_ om_ _ rfl
 refine ⟨g, cap, w', h1, ?_, gl_grown h3 (gl_step hg0 (gl_refl _ _) si_) (fun r hr => .inl (by simp [hr])), ?_, h5⟩
 · unfold OwnW
   rw [List.length_append]
   have e : wL (l ++ [X]) = wL l ++ wL [X] := by simp [wL]
   rw [e]
   exact h2
 · rcases h4 with h4 | h4
   · exact .inl h4
   · exact .inr om_
theorem ref2Turn (n : Nat) (N : Int) (hN : N = n) (h0 : 1 ≤ n) (h1 : n ≤ 31) (x : Int) (w : World) :
  Calls Tryz.prog 163 #[.int .u32 x, .int .i64 N] w fun e w' => e = .returned (.int .u32 (rotr n x)) ∧ w' = w.drew := by
 subst hN
 have i0 : (0 : Int) ≤ 32 - (n : Int) := by omega
 have i1 : (0 : Int) ≤ (n : Int) := by omega
 have e1 : (32 - (n : Int)).toNat = 32 - n := by omega
 have H : Hid (rotr n x = bits .or .u32 (x / 2 ^ n) (IntKind.u32.wrap (x * 2 ^ (32 - n)))) := Lib.hid (by unfold rotr; rw [orr_comm]; rfl)
 go_enter Tryz.func163, Tryz.ntmps163
 go_wp2_with fail
 go_region
 go_wp2_with fail
 exact bodyPost_ret (v := .int .u32 (rotr n x)) (by simp [results, Tryz.results163, go_sem]; rw [H.out]; simp [IntKind.wrap_u32]) rfl ⟨rfl, rfl⟩
theorem sizeB_len (n : Nat) : (sizeB n).length = 8 := by simp [sizeB]
theorem sizeB_get (n j : Nat) (h : j < 8) : (sizeB n).take (j + 1) = (sizeB n).take j ++ [UInt8.ofNat (n * 8 / 2 ^ (56 - 8 * j) % 256)] := by
 rcases (by omega : j = 0 ∨ j = 1 ∨ j = 2 ∨ j = 3 ∨ j = 4 ∨ j = 5 ∨ j = 6 ∨ j = 7) with rfl | rfl | rfl | rfl | rfl | rfl | rfl | rfl <;> simp [sizeB]
theorem app_byte (w w0 : World) (v : Value) (l : List UInt8) (y : UInt8) (X : Int) (hX : X = y.toNat) (hown : OwnB w.heap.size v l w0) (hlen : l.length ≤ 100000000000) (hg : GL [] w w0) :
  ∃ g cap w', (Builtin.append_ #[47, 47] 47 #[v, .slice (some ⟨w0.heap.size, 0, none⟩) 1 1]).run Tryz.prog (w0.alloc (.cells #[.int .u8 X] 5)) = .ok (.slice (some ⟨g, 0, none⟩) (l.length + 1) cap) w' ∧
   OwnB w.heap.size (.slice (some ⟨g, 0, none⟩) (l.length + 1) cap) (l ++ [y]) w' ∧ GL [] w w' := by
 obtain ⟨g, cap, w', h1, h2, h3, _, _⟩ := run_appB1 w.heap.size v l y X hX w0 _ (.inr rfl) hown hlen hg.size
 refine ⟨g, cap, w', h1, h2, gl_step h3 hg (fun r hr => ?_)⟩
 have := ownB_blk hown r (by simpa using hr)
 exact .inr this.1
theorem ref2Filled (l : List UInt8) (hl : l.length ≤ 100000000) (bv : Value) (w : World) (hin : InAt bv l w) :
  Calls Tryz.prog 131 #[bv] w fun e w' => ∃ v, e = .returned v ∧ OwnB w.heap.size v (filledB l) w' ∧ Below w.heap.size w w' := by
 obtain ⟨ba, bc, rfl, hbc, _⟩ := inAt_form hin
 obtain ⟨ad1, c1, w1, hrun, hown1, hgr1⟩ := run_appR w.heap.size (.slice none 0 0) (.slice ba l.length bc) [] l w (ownB_nil _ _) hin so_ (Nat.le_refl _)
 simp only [List.length_nil, Nat.zero_add, List.nil_append] at hrun hown1
 have HRUN := Lib.hid hrun
 have HL1 : Hid (GL [] w w1) := Lib.hid hgr1
 obtain ⟨g2, c2, w2, hrun2, hown2, hl2⟩ := app_byte w w1 _ l 128 128 rfl hown1 om_ hgr1
 have HRUN2 := Lib.hid hrun2
 have HO2 := Lib.hid hown2
 have HL2 := Lib.hid hl2
 clear hrun hown1 hgr1 hrun2 hown2 hl2 hin hbc
 go_enter Tryz.func131, Tryz.ntmps131
 go_wp2_with (first | ((with_reducible (at_builtin; refine wpList_append_run _ rfl (.tmp 6) (.tmp 7) 47 47 rfl _ _ ?ha ?hb HRUN.out ?_)); (case ha => simp [Act.eval, Act.put]); (case hb => simp [Act.eval, Act.put])) | ((with_reducible (at_builtin; refine wpList_append_run _ rfl (.tmp 9) (.tmp 10) 47 47 rfl _ _ ?ha ?hb HRUN2.out ?_)); (case ha => simp [Act.eval, Act.put]); (case hb => simp [Act.eval, Act.put])))
 clear HRUN HRUN2 HL1
 go_loopw [3] (fun v wr => ∃ k : Nat, k ≤ zerosN l.length ∧ Hid (OwnB w.heap.size v (l ++ [128] ++ List.replicate k 0) wr) ∧ Hid (GL [] w wr)) (fun v _ => zerosN l.length + l.length + 1 - lenV v)
 case atStart => exact ⟨0, by omega, Lib.hid (by rw [List.replicate_zero, List.append_nil]; exact HO2.out), HL2⟩
 case round =>
  obtain ⟨k, hk, HO, HL⟩ := hrel
  obtain ⟨ad, c, hv⟩ := ownB_form HO.out
  subst hv
  have hlen : (l ++ [128] ++ List.replicate k 0).length = l.length + 1 + k := by simp; omega
  rw [hlen] at HO ⊢
  by_cases hlt : k < zerosN l.length
  · have hm : ((((l.length : Int) + 1 + (k : Int)) % 64) != 56) = true := by rw [bne_iff_ne]; unfold zerosN at hlt; omega
    obtain ⟨g3, c3, w3, hrun3, hown3, hl3⟩ := app_byte w wr _ _ 0 0 rfl HO.out (by rw [hlen]; unfold zerosN at hk; omega) HL.out
    rw [hlen] at hrun3 hown3
    have HRUN := Lib.hid hrun3
    have HO3 : Hid (OwnB w.heap.size (.slice (some ⟨g3, 0, none⟩) (l.length + 1 + k + 1) c3) (l ++ [128] ++ List.replicate (k + 1) 0) w3) := Lib.hid (by rw [List.replicate_succ', ← List.append_assoc]; exact hown3)
    have HL3 := Lib.hid hl3
    have hzb : zerosN l.length < 64 := by unfold zerosN; omega
    clear hrun3 hown3 hl3
    go_wp2_with (at_builtin; refine wpList_append_run _ rfl (.tmp 16) (.tmp 17) 47 47 rfl _ _ (by simp [Act.eval, Act.put]) (by simp [Act.eval, Act.put]) HRUN.out ?_)
    exact ⟨⟨k + 1, by omega, HO3, HL3⟩, by simp [lenV]; omega⟩
  · obtain rfl : k = zerosN l.length := by omega
    have hm : ((((l.length : Int) + 1 + (zerosN l.length : Int)) % 64) != 56) = false := by rw [bne_eq_false_iff_eq]; unfold zerosN; omega
    have hzb : zerosN l.length < 64 := by unfold zerosN; omega
    clear hlt
    generalize hP : l ++ [128] ++ List.replicate (zerosN l.length) 0 = P at *
    have HF : Hid (filledB l = P ++ sizeB l.length) := Lib.hid (by unfold filledB; rw [hP])
    generalize hZ : zerosN l.length = Z at *
    clear hP
    go_wp2_with fail
    go_loopw [3, 5] (fun v iv wr => ∃ j : Nat, j ≤ 8 ∧ iv = .int .i64 (56 - 8 * (j : Int)) ∧ Hid (OwnB w.heap.size v (P ++ (sizeB l.length).take j) wr) ∧ Hid (GL [] w wr)) (fun _ iv _ => (intOf iv + 8).toNat)
    case atStart => exact ⟨0, by omega, rfl, Lib.hid (by rw [List.take_zero, List.append_nil]; exact HO.out), HL⟩
    case round =>
     obtain ⟨j, hj, rfl, HOj, HLj⟩ := hrel
     obtain ⟨adj, cj, hv⟩ := ownB_form HOj.out
     subst hv
     have hlenj : (P ++ (sizeB l.length).take j).length = l.length + 1 + Z + j := by rw [List.length_append, hlen, List.length_take, sizeB_len]; omega
     rw [hlenj] at HOj ⊢
     by_cases hlt : j < 8
     · obtain ⟨K, hK⟩ : ∃ K : Nat, K = 56 - 8 * j := ⟨_, rfl⟩
       have HG := Lib.hid (sizeB_get l.length j hlt)
       rw [← hK] at HG
       rw [show (56 - 8 * (j : Int)) = (K : Int) by omega]
       have hK0 : (0 : Int) ≤ K := by omega
       have hK1 : decide ((0 : Int) ≤ K) = true := by simp
       have hX : (((l.length * 8 / 2 ^ K % 256 : Nat)) : Int) = (UInt8.ofNat (l.length * 8 / 2 ^ K % 256)).toNat := by rw [UInt8.toNat_ofNat']; omega
       have hX2 : ((((l.length : Int) * 8 / 2 ^ K)) % 256 : Int) = ((l.length * 8 / 2 ^ K % 256 : Nat) : Int) := by push_cast; rfl
       obtain ⟨g3, c3, w3, hrun3, hown3, hl3⟩ := app_byte w wr _ _ (UInt8.ofNat (l.length * 8 / 2 ^ K % 256)) _ hX HOj.out (by rw [hlenj]; unfold zerosN at hZ; omega) HLj.out
       rw [hlenj, ← hX2] at hrun3
       rw [hlenj] at hown3
       have HRUN := Lib.hid hrun3
       have HO3 : Hid (OwnB w.heap.size (.slice (some ⟨g3, 0, none⟩) (l.length + 1 + Z + j + 1) c3) (P ++ (sizeB l.length).take (j + 1)) w3) := Lib.hid (by rw [HG.out, ← List.append_assoc]; exact hown3)
       have HL3 := Lib.hid hl3
       have HK := Lib.hid hK
       have hK9 : K ≤ 56 := by omega
       clear hrun3 hown3 hl3 hX hX2 hK
       go_wp2_with (at_builtin; refine wpList_append_run _ rfl (.tmp 27) (.tmp 32) 47 47 rfl _ _ (by simp [Act.eval, Act.put]) (by simp [Act.eval, Act.put]) HRUN.out ?_)
       exact ⟨⟨j + 1, by omega, by have := HK.out; go_num, HO3, HL3⟩, by have := HK.out; simp [intOf]; omega⟩
     · obtain rfl : j = 8 := by omega
       clear hlt
       rw [List.take_of_length_le (by rw [sizeB_len]; omega)] at HOj
       go_wp2_with fail
       exact bodyPost_ret (v := .slice adj (l.length + 1 + Z + 8) cj) (by simp [results, Tryz.results131, go_sem]) rfl ⟨_, rfl, by rw [HF.out]; exact HOj.out, gl_to_below HLj.out⟩
section
variable {P : Program} {ops : Array Oper} {Q : Exit → Act → World → Prop} {a0 : Act} {w0 : World} {ds : List (Option Nat)}
def DepsT (ds : List (Option Nat)) (G : Nat → Value → Prop) (a : Act) (o : Oper) : Prop := ∀ e ∈ o.after.toList, Region.binds .any e = true → ∃ v, G e.on v ∧ ∀ d, ds[e.on]? = some (some d) → a.tmps[d]? = some v
def StepW (P : Program) (ops : Array Oper) (Q : Exit → Act → World → Prop) (a0 : Act) (ds : List (Option Nat)) (I R : World → Prop) (E : Bool) (G : Nat → Value → Prop) (i : Nat) (o : Oper) : Prop :=
 ∀ (a : Act) (w : World), (∀ t, some t ∉ ds → a.tmps[t]? = a0.tmps[t]?) → I w → (E = true → R w) → DepsT ds G a o →
  ∀ K : Act → World → Prop, (∀ v, G i v → K (a.put o.dst v) w) →
   if Region.wanted o (yielded ops a.tmps) = true then o.wp P a w K Q else K (a.put o.dst undef) w
def StepB (P : Program) (ops : Array Oper) (Q : Exit → Act → World → Prop) (a0 : Act) (ds : List (Option Nat)) (I R : World → Prop) (B : Value → World → Prop) (G : Nat → Value → Prop) (o : Oper) : Prop :=
 ∀ (a : Act) (w : World), (∀ t, some t ∉ ds → a.tmps[t]? = a0.tmps[t]?) → I w → R w → DepsT ds G a o →
  ∀ K : Act → World → Prop, (∀ v w', I w' → R w' → B v w' → K (a.put o.dst v) w') →
   if Region.wanted o (yielded ops a.tmps) = true then o.wp P a w K Q else K (a.put o.dst undef) w
def StepA (P : Program) (ops : Array Oper) (Q : Exit → Act → World → Prop) (a0 : Act) (ds : List (Option Nat)) (I R : World → Prop) (B D : Value → World → Prop) (G : Nat → Value → Prop) (kb : Nat) (o : Oper) : Prop :=
 ∀ (a : Act) (w : World), (∀ t, some t ∉ ds → a.tmps[t]? = a0.tmps[t]?) → I w → R w → DepsT ds G a o → (∃ u, B u w ∧ ∀ d, ds[kb]? = some (some d) → a.tmps[d]? = some u) →
  ∀ K : Act → World → Prop, (∀ v w', I w' → D v w' → K (a.put o.dst v) w') →
   if Region.wanted o (yielded ops a.tmps) = true then o.wp P a w K Q else K (a.put o.dst undef) w
def StepsT (P : Program) (ops : Array Oper) (Q : Exit → Act → World → Prop) (a0 : Act) (ds : List (Option Nat)) (I R : World → Prop) (B D : Value → World → Prop) (G : Nat → Value → Prop) (es : List Bool) (kb ka : Nat) : Nat → List Oper → Prop
 | _, [] => True
 | i, o :: r => (if i = kb then StepB P ops Q a0 ds I R B G o else if i = ka then StepA P ops Q a0 ds I R B D G kb o else StepW P ops Q a0 ds I R (es.getD i false) G i o) ∧ StepsT P ops Q a0 ds I R B D G es kb ka (i + 1) r
theorem stepsT_at {I R : World → Prop} {B D : Value → World → Prop} {G : Nat → Value → Prop} {es : List Bool} {kb ka : Nat} : ∀ (l : List Oper) (k j : Nat) (o : Oper), StepsT P ops Q a0 ds I R B D G es kb ka k l → l[j]? = some o →
  (if k + j = kb then StepB P ops Q a0 ds I R B G o else if k + j = ka then StepA P ops Q a0 ds I R B D G kb o else StepW P ops Q a0 ds I R (es.getD (k + j) false) G (k + j) o)
 | [], _, _, _, _, h => by simp at h
 | x :: r, k, 0, o, hs, h => by
   simp only [List.getElem?_cons_zero, Option.some.injEq] at h
   subst h
   exact hs.1
 | x :: r, k, j + 1, o, hs, h => by
   have := stepsT_at r (k + 1) j o hs.2 (by simpa using h)
   rwa [Nat.add_assoc, Nat.add_comm 1 j] at this
def onB (l : List Oper) (k j : Nat) : Bool := match l[k]? with
 | some o => o.after.toList.any fun e => e.on == j && Region.binds .any e
 | none => false
theorem onB_of {l : List Oper} {k j : Nat} (h : onB l k j = true) {o : Oper} (ho : l[k]? = some o) : ∃ e ∈ o.after.toList, e.on = j ∧ Region.binds .any e = true := by
 unfold onB at h
 rw [ho] at h
 simp only [List.any_eq_true, Bool.and_eq_true, beq_iff_eq] at h
 obtain ⟨e, h1, h2, h3⟩ := h
 exact ⟨e, h1, h2, h3⟩
def afterB (l : List Oper) (j : Nat) : List Nat := match l[j]? with
 | some o => (o.after.toList.filter fun e => Region.binds .any e).map (·.on)
 | none => []
def markB (l : List Oper) : Nat → List Nat → List Nat
 | 0, s => s
 | n + 1, s => markB l n (if s.contains n then s ++ afterB l n else s)
def ClosedM (l : List Oper) (m : Nat → Option Value) : Prop := ∀ j o, l[j]? = some o → m j ≠ none → ∀ e ∈ o.after.toList, Region.binds .any e = true → m e.on ≠ none
theorem mark_ok {l : List Oper} {m : Nat → Option Value} (hc : ClosedM l m) : ∀ (n : Nat) (s : List Nat), (∀ x ∈ s, m x ≠ none) → ∀ x ∈ markB l n s, m x ≠ none
 | 0, s, h => h
 | n + 1, s, h => by
   refine mark_ok hc n _ ?_
   intro x hx
   split at hx
   · rename_i hn
     rcases List.mem_append.1 hx with hx | hx
     · exact h x hx
     · unfold afterB at hx
       cases ho : l[n]? with
       | none => rw [ho] at hx; cases hx
       | some o =>
         rw [ho] at hx
         obtain ⟨e, he, rfl⟩ := List.mem_map.1 hx
         obtain ⟨h1, h2⟩ := List.mem_filter.1 he
         exact hc n o ho (h n (by simpa using hn)) e h1 (by simpa using h2)
   · exact h x hx
def earlyB (l : List Oper) (kb : Nat) (es : List Bool) : Bool := (List.range es.length).all fun i => !(es.getD i false) || (markB l (kb + 1) [kb]).contains i
theorem early_of {l : List Oper} {kb i : Nat} {es : List Bool} (h : earlyB l kb es = true) (hi : es.getD i false = true) : i ∈ markB l (kb + 1) [kb] := by
 unfold earlyB at h
 rw [List.all_eq_true] at h
 have hl : i < es.length := by
  rcases Nat.lt_or_ge i es.length with h1 | h1
  · exact h1
  · rw [List.getD_eq_getElem?_getD, List.getElem?_eq_none h1] at hi; cases hi
 have := h i (List.mem_range.2 hl)
 rw [hi] at this
 simpa using this
theorem wp_assign_run {P : Program} (w : World) {o : Oper} {a : Act} {K : Act → World → Prop} {Q : Exit → Act → World → Prop} (s : Operand) (v : Value) (ho : o.op = .assign s) (hs : a.eval s = v) (h : K (a.put o.dst v) w) : o.wp P a w K Q := by
 unfold Oper.wp execOp
 simp only [ho, Sem.run_pure, hs]
 exact h
theorem wp_region_T {I R : World → Prop} {B D : Value → World → Prop} {G : Nat → Value → Prop} {id : Nat} {l : List Oper} {oc : Oper} (n1 f kb ka s d : Nat) (hk1 : kb ≠ ka) (hkn : ka < n1)
  (hGb : ∀ v, G kb v) (hGa : ∀ v, G ka v)
  (hka : onB l ka kb = true) (es : List Bool) (hes : earlyB l kb es = true)
  (hn1 : l.length = n1 + 1) (ht : tailB l.toArray n1 f = true) (hoc : l[n1]? = some oc) (hog : oc.guard = none) (hop : oc.op = .assign (.tmp s)) (hod : oc.dst = some d) (hsa : ds[ka]? = some (some s))
  (hm : P.follows .mixedOrders = true) (hds : ds = (l.take n1).map (·.dst)) (hD : Distinct ds) (hsz : ∀ d, some d ∈ ds → d < a0.tmps.size) (hdep : depB 0 l = true)
  (h0 : I w0.drew) (hR : R w0.drew) (hsteps : StepsT P l.toArray Q a0 ds I R B D G es kb ka 0 (l.take n1))
  (hend : ∀ (vs : List Value) w' u, vs.length = ds.length → (∀ i v, vs[i]? = some v → G i v) → I w' → vs[ka]? = some u → D u w' → Q .normal { a0 with tmps := (setAll a0.tmps ds vs).setIfInBounds d u } w') : (Code.region id l.toArray true).wp P Q a0 w0 := by
 have hkal : ka < l.length := by omega
 have hlt : ∀ i, i < n1 → (l.take n1)[i]? = l[i]? := fun i hi => by rw [List.getElem?_take, if_pos hi]
 refine wp_region_R (J := fun m W => I W ∧ (∀ j v, m j = some v → G j v) ∧ (m ka = none → R W) ∧ (m ka = none → ∀ u, m kb = some u → B u W) ∧ (m kb = none → m ka = none) ∧ (∀ u, m ka = some u → D u W) ∧ ClosedM l m ∧ (∀ j, n1 ≤ j → m j = none)) (ds := ds) n1 f so_ hm (by simpa using hds) hD hsz (fun i o h => depB_of hdep i o h) ht ?_ ?_ ?_
 · exact ⟨h0, (fun j v h => by cases h), fun _ => hR, (fun _ u h => by cases h), fun _ => rfl, (fun u h => by cases h), (fun j o _ h => absurd rfl h), fun _ _ => rfl⟩
 · intro i o hi ho a w m _ hout hJ hmi hdp hval K hK
   obtain ⟨j1, j2, j3, j4, j5, j6, j8, j9⟩ := hJ
   have hol : l[i]? = some o := by simpa using ho
   have hs := stepsT_at (l.take n1) 0 i o hsteps (by rw [hlt i hi]; exact hol)
   rw [Nat.zero_add] at hs
   have hdeps : DepsT ds G a o := fun e he hb => by
    obtain ⟨v, hv⟩ := hdp e he hb
    exact ⟨v, j2 _ _ hv, fun d hd => hval _ _ _ hv hd⟩
   have hup : ∀ (v : Value) (j : Nat), j ≠ i → updV m i v j = m j := fun v j hj => by unfold updV; rw [if_neg hj]
   have hself : ∀ v : Value, updV m i v i = some v := fun v => by unfold updV; rw [if_pos rfl]
   have hG' : ∀ v, G i v → ∀ j u, updV m i v j = some u → G j u := fun v hg j u hj => by
    unfold updV at hj
    split at hj
    · rename_i e; injection hj with hj; rw [e, ← hj]; exact hg
    · exact j2 _ _ hj
   have hCl : ∀ v, ClosedM l (updV m i v) := fun v j oj hoj hj e he hb => by
    by_cases hji : j = i
    · subst hji
      rw [hol] at hoj
      injection hoj with hoj
      subst hoj
      obtain ⟨u, hu⟩ := hdp e he hb
      by_cases hei : e.on = j
      · rw [hei, hself]; simp
      · rw [hup v _ hei, hu]; simp
    · rw [hup v j hji] at hj
      have := j8 j oj hoj hj e he hb
      by_cases hei : e.on = i
      · rw [hei, hself]; simp
      · rw [hup v _ hei]; exact this
   have hN : ∀ v, ∀ j, n1 ≤ j → updV m i v j = none := fun v j hj => by rw [hup v j om_]; exact j9 j hj
   by_cases hib : i = kb
   · subst hib
     rw [if_pos rfl] at hs
     have hma := j5 hmi
     refine hs a w hout j1 (j3 hma) hdeps K (fun v w' hI hR' hB => hK v w' ⟨hI, hG' v (hGb v), fun _ => hR', fun _ u hu => ?_, fun h => ?_, fun u hu => ?_, hCl v, hN v⟩ trivial)
     · rw [hself] at hu; injection hu with hu; rw [← hu]; exact hB
     · rw [hself] at h; cases h
     · rw [hup v ka (fun e => hk1 e.symm), hma] at hu; cases hu
   · rw [if_neg hib] at hs
     by_cases hia : i = ka
     · subst hia
       rw [if_pos rfl] at hs
       obtain ⟨e, he, heo, heb⟩ := onB_of hka hol
       obtain ⟨u, hu⟩ := hdp e he heb
       rw [heo] at hu
       refine hs a w hout j1 (j3 hmi) hdeps ⟨u, j4 hmi u hu, fun d hd => hval _ _ _ hu hd⟩ K (fun v w' hI hD' => hK v w' ⟨hI, hG' v (hGa v), fun h => ?_, fun h => ?_, fun h => ?_, fun u' hu' => ?_, hCl v, hN v⟩ trivial)
       · rw [hself] at h; cases h
       · rw [hself] at h; cases h
       · rw [hup v kb hk1, hu] at h; cases h
       · rw [hself] at hu'; injection hu' with hu'; rw [← hu']; exact hD'
     · rw [if_neg hia] at hs
       have hE : es.getD i false = true → R w := fun he => by
        refine j3 ?_
        cases hma : m ka with
        | none => rfl
        | some u =>
          exfalso
          obtain ⟨oa, hoa⟩ : ∃ oa, l[ka]? = some oa := ⟨_, List.getElem?_eq_getElem hkal⟩
          obtain ⟨e, he1, he2, he3⟩ := onB_of hka hoa
          have hkb := j8 ka oa hoa (by rw [hma]; simp) e he1 he3
          rw [he2] at hkb
          exact mark_ok j8 (kb + 1) [kb] (fun x hx => by obtain rfl : x = kb := (by simpa using hx); exact hkb) i (early_of hes he) hmi
       refine hs a w hout j1 hE hdeps K (fun v hg => hK v w ⟨j1, hG' v hg, fun h => ?_, fun h u hu => ?_, fun h => ?_, fun u hu => ?_, hCl v, hN v⟩ trivial)
       · rw [hup v ka (fun e => hia e.symm)] at h; exact j3 h
       · rw [hup v ka (fun e => hia e.symm)] at h; rw [hup v kb (fun e => hib e.symm)] at hu; exact j4 h u hu
       · rw [hup v kb (fun e => hib e.symm)] at h; rw [hup v ka (fun e => hia e.symm)]; exact j5 h
       · rw [hup v ka (fun e => hia e.symm)] at hu; exact j6 u hu
 · intro vs w' hl hJ _
   obtain ⟨j1, j2, j3, j4, j5, j6, _, _⟩ := hJ
   have hln : vs.length = n1 := by rw [hl, hds, List.length_map, List.length_take]; omega
   have hva : vs[ka]? = some (vs[ka]'om_) := List.getElem?_eq_getElem om_
   have hsb : (setAll a0.tmps ds vs)[s]? = some (vs[ka]'om_) := setAll_at ds vs a0.tmps ka s _ hD hsa hva (hsz s (List.mem_of_getElem? hsa))
   have hsz2 : l.toArray.size - n1 = 1 := by simp; omega
   rw [hsz2]
   refine wpOps_run (o := oc) (by simpa using hoc) hog (fun K hK => wp_assign_run w' (.tmp s) (vs[ka]'om_) hop (by simp [Act.eval, hsb]) (hK _ _ ?_))
   have := hend vs w' _ hl j2 j1 hva (j6 _ hva)
   rw [hod]
   exact this
end
theorem wp_build_run (w : World) {o : Oper} {a : Act} {K : Act → World → Prop} {Q : Exit → Act → World → Prop} (s : Operand) (T : TypeId) (X : Value)
  (ho : o.op = .buildSlice T 1 #[(0, s)]) (hx : a.eval s = X) {v' : Value} {w' : World}
  (hr : (Instr.buildSlice T 1 #[(0, X)]).run Tryz.prog w = .ok v' w') (h : K (a.put o.dst v') w') : o.wp Tryz.prog a w K Q := by
 unfold Oper.wp execOp
 simp only [ho, Sem.run_bind, Sem.run_pure, Result.andThen_ok, List.map_toArray, List.map_cons, List.map_nil, hx, hr]
 exact h
def OneB (X : Value) (E : TypeId) (u : Value) (W : World) : Prop := ∃ b, u = .slice (some ⟨b, 0, none⟩) 1 1 ∧ W.heap[b]? = some (.cells #[X] E (0, 0))
section
variable {ops : Array Oper} {Q : Exit → Act → World → Prop} {a0 : Act} {ds : List (Option Nat)} {I R : World → Prop} {G : Nat → Value → Prop} {af : Array Edge} {pos : String} {d ty : Nat}
theorem eval_of {a : Act} {s : Nat} {v : Value} (h : a.tmps[s]? = some v) : a.eval (.tmp s) = v := by simp [Act.eval, h]
theorem stepB_one {s j T E : Nat} {X : Value} (hrun : ∀ w : World, (Instr.buildSlice T 1 #[(0, X)]).run Tryz.prog w = .ok (.slice (some ⟨w.heap.size, 0, none⟩) 1 1) (w.alloc (.cells #[X] E)))
  (hI : ∀ w o, I w → I (w.alloc o)) (hR : ∀ w o, R w → R (w.alloc o)) (hd : (⟨j, .data⟩ : Edge) ∈ af.toList) (hj : ds[j]? = some (some s)) (hG : ∀ v, G j v → v = X) :
  StepB Tryz.prog ops Q a0 ds I R (OneB X E) G { dst := some d, op := .buildSlice T 1 #[(0, .tmp s)], type := ty, pos := pos, after := af, guard := none } := by
 intro a w hout hIw hRw hdep K hK
 rw [if_pos (by simp [Region.wanted])]
 obtain ⟨v, hv, he⟩ := hdep ⟨j, .data⟩ hd rfl
 have hv2 := hG v hv
 subst hv2
 exact wp_build_run w (.tmp s) T v rfl (eval_of (he s hj)) (hrun w) (hK _ _ (hI _ _ hIw) (hR _ _ hRw) ⟨w.heap.size, rfl, blk_new w _⟩)
theorem stepA_app {s1 s2 j1 kb E t t' : Nat} {V0 X : Value} {D : Value → World → Prop} (hjb : ds[kb]? = some (some s2))
  (hrun : ∀ W b, I W → R W → W.heap[b]? = some (.cells #[X] E (0, 0)) → ∃ v' w', (Builtin.append_ #[t, t'] ty #[V0, .slice (some ⟨b, 0, none⟩) 1 1]).run Tryz.prog W = .ok v' w' ∧ I w' ∧ D v' w')
  (hd1 : (⟨j1, .data⟩ : Edge) ∈ af.toList) (hj1 : ds[j1]? = some (some s1)) (hG1 : ∀ v, G j1 v → v = V0) :
  StepA Tryz.prog ops Q a0 ds I R (OneB X E) D G kb { dst := some d, op := .call { callee := .builtin .append, args := #[.tmp s1, .tmp s2], argTypes := #[t, t'] }, type := ty, pos := pos, after := af, guard := none } := by
 intro a w hout hIw hRw hdep hu K hK
 rw [if_pos (by simp [Region.wanted])]
 obtain ⟨v, hv, he⟩ := hdep ⟨j1, .data⟩ hd1 rfl
 have hv2 := hG1 v hv
 subst hv2
 obtain ⟨u, ⟨b, rfl, hb⟩, hub⟩ := hu
 obtain ⟨v', w', hr, hI', hD'⟩ := hrun w b hIw hRw hb
 exact wp_append_run w (.tmp s1) (.tmp s2) t t' rfl _ _ (eval_of (he s1 hj1)) (eval_of (hub s2 hjb)) hr (hK _ _ hI' hD')
end
theorem build_u32 (x : Int) (w : World) : (Instr.buildSlice 166 1 #[(0, .int .u32 x)]).run Tryz.prog w = .ok (.slice (some ⟨w.heap.size, 0, none⟩) 1 1) (w.alloc (.cells #[.int .u32 x] 121)) := by
 go_simp
theorem words16_take (k : Nat) (l : List UInt8) (hl : l.length = 64) (h : k < 16) : (words16 l).take (k + 1) = (words16 l).take k ++ [word4 (l.getD (4 * k) 0).toNat (l.getD (4 * k + 1) 0).toNat (l.getD (4 * k + 2) 0).toNat (l.getD (4 * k + 3) 0).toNat] := by
 have hn : (words16 l).length = 16 := words16_len 16 l om_
 have hg := words16_get k l om_
 rw [List.take_succ_eq_append_getElem om_]
 rw [List.getD_eq_getElem?_getD, List.getElem?_eq_getElem om_] at hg
 rw [← hg]
 rfl
theorem inAt_cells {v : Value} {l : List UInt8} {w : World} (h : InAt v l w) (h0 : l ≠ []) : ∃ G o c, v = .slice (some ⟨G, o, none⟩) l.length c ∧ l.length ≤ c ∧ G < w.heap.size ∧ ∀ j, j < l.length → w.cell? ⟨G, o + j, none⟩ = some (.int .u8 (l.getD j 0).toNat) := by
 obtain ⟨a, c, rfl, hc, hb⟩ := inAt_form h
 obtain ⟨G, o, rfl, hB⟩ := hb h0
 exact ⟨G, o, c, rfl, hc, hB.1, hB.2⟩
theorem cell_gl0 {w W : World} {G j : Nat} {v : Value} (hG : G < w.heap.size) (h : w.cell? ⟨G, j, none⟩ = some v) (hg : GL [] w W) : W.cell? ⟨G, j, none⟩ = some v := by
 simp only [World.cell?, hg.block _ hG si_] at h ⊢
 exact h
theorem app_word (w W : World) (lo : Nat) (v : Value) (l : List Int) (X : Int) (b : Nat) (hown : OwnW lo v l W) (hb : W.heap[b]? = some (.cells #[.int .u32 X] 121 (0, 0))) (hlen : l.length ≤ 100000) (hlo : w.heap.size ≤ lo) (hlo2 : lo ≤ W.heap.size) (hg : GL [] w W) :
  ∃ v' w', (Builtin.append_ #[166, 166] 166 #[v, .slice (some ⟨b, 0, none⟩) 1 1]).run Tryz.prog W = .ok v' w' ∧ GL [] w w' ∧ OwnW lo v' (l ++ [X]) w' := by
 obtain ⟨t0, ht0, ht1, ht2, ht3⟩ := info_parts Tryz.infoW4
 obtain ⟨g, cap, w', h1, h2, h3, h4, h5⟩ := run_append_lies (P := Tryz.prog) (w := W) 166 166 lo 121 t0 (.int .u32 0) 1 4 Tryz.underlying166 ht0 ht1 ht2 ht3 rfl de_ v l.length (wL l) hown ⟨b, 0, none⟩ 1 1 (wL [X]) (by rw [wL_len]; rfl) (fun j u hj => by
  have h0 : j < 1 := by
   have := (List.getElem?_eq_some_iff.1 hj).1
   simpa [wL] using this
  obtain rfl : j = 0 := by omega
  simp [wL] at hj
  subst hj
  exact blk_cell hb 0) (fun x hx => by
  unfold wL at hx
  obtain ⟨y, _, rfl⟩ := List.mem_map.1 hx
  rfl) om_ (by unfold maxLen; omega) om_ hlo2 _ rfl
 refine ⟨_, w', h1, gl_grown h3 hg (fun r hr => .inr (Nat.le_trans hlo (World.ownsRow.lt hown r hr).1)), ?_⟩
 unfold OwnW
 rw [List.length_append]
 have e : wL (l ++ [X]) = wL l ++ wL [X] := by simp [wL]
 rw [e]
 exact h2
theorem ownW_cell {lo g n cp j : Nat} {x : Int} {m : List Int} {W : World} (h : OwnW lo (.slice (some ⟨g, 0, none⟩) n cp) m W) (hj : j < m.length) (hx : m.getD j 0 = x) : W.cell? ⟨g, j, none⟩ = some (.int .u32 x) := by
 obtain ⟨g', c', hv, _, _, hcell⟩ := ownW_in h (fun e => by rw [e] at hj; simp at hj)
 injection hv with h1 _ _
 injection h1 with h1
 injection h1 with h1
 subst h1
 rw [hcell j hj, ← hx, List.getD_eq_getElem?_getD, List.getElem?_eq_getElem hj]
 rfl
def wADS : List (Option Nat) := [some 14, some 15, some 16, some 17, some 18, some 19, some 20, some 21, some 22, some 23, some 24, some 25, some 26, some 27, some 28, some 29, some 30, some 31, some 32, some 33, some 34, some 35, some 36, some 37, some 38, some 39, some 40, some 41, some 42, some 43, some 44, some 45]
def wAGS (ad : Option Addr) (n cp G o c i b0 b1 b2 b3 : Nat) : List (Option Value) := [some (.slice ad n cp), some (.slice (some ⟨G, o, none⟩) 64 c), some (.int .i64 (i : Int)), some (.pointer (some ⟨G, o + i, none⟩)), some (.int .u8 (b0 : Int)), some (.int .u32 (b0 : Int)), some (.int .u32 (IntKind.u32.wrap ((b0 : Int) * 16777216))), some (.slice (some ⟨G, o, none⟩) 64 c), some (.int .i64 (i : Int)), some (.int .i64 ((i : Int) + 1)), some (.pointer (some ⟨G, o + (i + 1), none⟩)), some (.int .u8 (b1 : Int)), some (.int .u32 (b1 : Int)), some (.int .u32 (IntKind.u32.wrap ((b1 : Int) * 65536))), some (.int .u32 (bits .or .u32 (IntKind.u32.wrap ((b0 : Int) * 16777216)) (IntKind.u32.wrap ((b1 : Int) * 65536)))), some (.slice (some ⟨G, o, none⟩) 64 c), some (.int .i64 (i : Int)), some (.int .i64 ((i : Int) + 2)), some (.pointer (some ⟨G, o + (i + 2), none⟩)), some (.int .u8 (b2 : Int)), some (.int .u32 (b2 : Int)), some (.int .u32 (IntKind.u32.wrap ((b2 : Int) * 256))), some (.int .u32 (bits .or .u32 (bits .or .u32 (IntKind.u32.wrap ((b0 : Int) * 16777216)) (IntKind.u32.wrap ((b1 : Int) * 65536))) (IntKind.u32.wrap ((b2 : Int) * 256)))), some (.slice (some ⟨G, o, none⟩) 64 c), some (.int .i64 (i : Int)), some (.int .i64 ((i : Int) + 3)), some (.pointer (some ⟨G, o + (i + 3), none⟩)), some (.int .u8 (b3 : Int)), some (.int .u32 (b3 : Int)), some (.int .u32 (word4 b0 b1 b2 b3)), none, none]
section
variable {ops : Array Oper} {Q : Exit → Act → World → Prop} {a0 : Act} {I R : World → Prop} {af : Array Edge} {ty : Nat} {pos : String} {at_ : Array TypeId} {ad : Option Addr} {n cp G o c i b0 b1 b2 b3 : Nat}
theorem wA14 (o3 : a0.tmps[3]? = some (.slice ad n cp)) : StepW Tryz.prog ops Q a0 wADS I R false (GV (wAGS ad n cp G o c i b0 b1 b2 b3)) 0 { dst := some 14, op := .move (.tmp 3), type := ty, pos := pos, after := af, guard := none } := by
 intro a w hout hI hE hdep K hK
 rw [if_pos (by simp [Region.wanted])]
 have o3w := (hout 3 de_).trans o3
 clear hout hE hdep
 clear o3
 go_simp
 exact hK _ (gv_of rfl rs_)
theorem wA15 (o0 : a0.tmps[0]? = some (.slice (some ⟨G, o, none⟩) 64 c)) : StepW Tryz.prog ops Q a0 wADS I R false (GV (wAGS ad n cp G o c i b0 b1 b2 b3)) 1 { dst := some 15, op := .move (.tmp 0), type := ty, pos := pos, after := af, guard := none } := by
 intro a w hout hI hE hdep K hK
 rw [if_pos (by simp [Region.wanted])]
 have o0w := (hout 0 de_).trans o0
 clear hout hE hdep
 clear o0
 go_simp
 exact hK _ (gv_of rfl rs_)
theorem wA16 (o4 : a0.tmps[4]? = some (.int .i64 (i : Int))) : StepW Tryz.prog ops Q a0 wADS I R false (GV (wAGS ad n cp G o c i b0 b1 b2 b3)) 2 { dst := some 16, op := .move (.tmp 4), type := ty, pos := pos, after := af, guard := none } := by
 intro a w hout hI hE hdep K hK
 rw [if_pos (by simp [Region.wanted])]
 have o4w := (hout 4 de_).trans o4
 clear hout hE hdep
 clear o4
 go_simp
 exact hK _ (gv_of rfl rs_)
theorem wA17 (h15 : (⟨1, .data⟩ : Edge) ∈ af.toList) (h16 : (⟨2, .data⟩ : Edge) ∈ af.toList) (hi : i + 3 < 64) : StepW Tryz.prog ops Q a0 wADS I R false (GV (wAGS ad n cp G o c i b0 b1 b2 b3)) 3 { dst := some 17, op := .indexAddr 47 (.tmp 15) (.tmp 16), type := ty, pos := pos, after := af, guard := none } := by
 intro a w hout hI hE hdep K hK
 rw [if_pos (by simp [Region.wanted])]
 obtain ⟨v15, g15, e15⟩ := hdep ⟨1, .data⟩ h15 rfl
 have e15 := e15 15 rfl
 have g15 := g15 _ rfl
 subst g15
 obtain ⟨v16, g16, e16⟩ := hdep ⟨2, .data⟩ h16 rfl
 have e16 := e16 16 rfl
 have g16 := g16 _ rfl
 subst g16
 clear hout hE hdep
 have z0 : (0 : Int) ≤ (i : Int) ∧ (i : Int) < 64 := by omega
 go_simp
 exact hK _ (gv_of rfl rs_)
theorem wA18 (h17 : (⟨3, .data⟩ : Edge) ∈ af.toList) (hL : ∀ w, I w → w.cell? ⟨G, o + i, none⟩ = some (.int .u8 (b0 : Int))) : StepW Tryz.prog ops Q a0 wADS I R false (GV (wAGS ad n cp G o c i b0 b1 b2 b3)) 4 { dst := some 18, op := .load 5 (.tmp 17), type := ty, pos := pos, after := af, guard := none } := by
 intro a w hout hI hE hdep K hK
 rw [if_pos (by simp [Region.wanted])]
 obtain ⟨v17, g17, e17⟩ := hdep ⟨3, .data⟩ h17 rfl
 have e17 := e17 17 rfl
 have g17 := g17 _ rfl
 subst g17
 have hLw := hL w hI
 clear hout hE hdep
 go_simp
 exact hK _ (gv_of rfl rs_)
theorem wA19 (h18 : (⟨4, .data⟩ : Edge) ∈ af.toList) (hb : b0 < 256) : StepW Tryz.prog ops Q a0 wADS I R false (GV (wAGS ad n cp G o c i b0 b1 b2 b3)) 5 { dst := some 19, op := .convert 5 121 (.tmp 18), type := ty, pos := pos, after := af, guard := none } := by
 intro a w hout hI hE hdep K hK
 rw [if_pos (by simp [Region.wanted])]
 obtain ⟨v18, g18, e18⟩ := hdep ⟨4, .data⟩ h18 rfl
 have e18 := e18 18 rfl
 have g18 := g18 _ rfl
 subst g18
 clear hout hE hdep
 have v : IntKind.u32.wrap (b0 : Int) = b0 := by rw [IntKind.wrap_u32]; omega
 go_simp
 exact hK _ (gv_of rfl rs_)
theorem wA20 (h19 : (⟨5, .data⟩ : Edge) ∈ af.toList) : StepW Tryz.prog ops Q a0 wADS I R false (GV (wAGS ad n cp G o c i b0 b1 b2 b3)) 6 { dst := some 20, op := .binOp .shl 121 (.tmp 19) (.const (.int .u64 24)) 49, type := ty, pos := pos, after := af, guard := none } := by
 intro a w hout hI hE hdep K hK
 rw [if_pos (by simp [Region.wanted])]
 obtain ⟨v19, g19, e19⟩ := hdep ⟨5, .data⟩ h19 rfl
 have e19 := e19 19 rfl
 have g19 := g19 _ rfl
 subst g19
 clear hout hE hdep
 go_simp
 exact hK _ (gv_of rfl rs_)
theorem wA21 (o0 : a0.tmps[0]? = some (.slice (some ⟨G, o, none⟩) 64 c)) : StepW Tryz.prog ops Q a0 wADS I R false (GV (wAGS ad n cp G o c i b0 b1 b2 b3)) 7 { dst := some 21, op := .move (.tmp 0), type := ty, pos := pos, after := af, guard := none } := by
 intro a w hout hI hE hdep K hK
 rw [if_pos (by simp [Region.wanted])]
 have o0w := (hout 0 de_).trans o0
 clear hout hE hdep
 clear o0
 go_simp
 exact hK _ (gv_of rfl rs_)
theorem wA22 (o4 : a0.tmps[4]? = some (.int .i64 (i : Int))) : StepW Tryz.prog ops Q a0 wADS I R false (GV (wAGS ad n cp G o c i b0 b1 b2 b3)) 8 { dst := some 22, op := .move (.tmp 4), type := ty, pos := pos, after := af, guard := none } := by
 intro a w hout hI hE hdep K hK
 rw [if_pos (by simp [Region.wanted])]
 have o4w := (hout 4 de_).trans o4
 clear hout hE hdep
 clear o4
 go_simp
 exact hK _ (gv_of rfl rs_)
theorem wA23 (h22 : (⟨8, .data⟩ : Edge) ∈ af.toList) (hi : i + 3 < 64) : StepW Tryz.prog ops Q a0 wADS I R false (GV (wAGS ad n cp G o c i b0 b1 b2 b3)) 9 { dst := some 23, op := .binOp .add 3 (.tmp 22) (.const (.int .i64 1)) 3, type := ty, pos := pos, after := af, guard := none } := by
 intro a w hout hI hE hdep K hK
 rw [if_pos (by simp [Region.wanted])]
 obtain ⟨v22, g22, e22⟩ := hdep ⟨8, .data⟩ h22 rfl
 have e22 := e22 22 rfl
 have g22 := g22 _ rfl
 subst g22
 clear hout hE hdep
 have q1 : IntKind.i64.wrap ((i : Int) + 1) = (i : Int) + 1 := IntWalk.i64_in _ om_
 go_simp
 exact hK _ (gv_of rfl rs_)
theorem wA24 (h21 : (⟨7, .data⟩ : Edge) ∈ af.toList) (h23 : (⟨9, .data⟩ : Edge) ∈ af.toList) (hi : i + 3 < 64) : StepW Tryz.prog ops Q a0 wADS I R false (GV (wAGS ad n cp G o c i b0 b1 b2 b3)) 10 { dst := some 24, op := .indexAddr 47 (.tmp 21) (.tmp 23), type := ty, pos := pos, after := af, guard := none } := by
 intro a w hout hI hE hdep K hK
 rw [if_pos (by simp [Region.wanted])]
 obtain ⟨v21, g21, e21⟩ := hdep ⟨7, .data⟩ h21 rfl
 have e21 := e21 21 rfl
 have g21 := g21 _ rfl
 subst g21
 obtain ⟨v23, g23, e23⟩ := hdep ⟨9, .data⟩ h23 rfl
 have e23 := e23 23 rfl
 have g23 := g23 _ rfl
 subst g23
 clear hout hE hdep
 have z1 : (0 : Int) ≤ (i : Int) + 1 ∧ (i : Int) + 1 < 64 := by omega
 have t1 : ((i : Int) + 1).toNat = i + 1 := by omega
 go_simp
 exact hK _ (gv_of rfl rs_)
theorem wA25 (h24 : (⟨10, .data⟩ : Edge) ∈ af.toList) (hL : ∀ w, I w → w.cell? ⟨G, o + (i + 1), none⟩ = some (.int .u8 (b1 : Int))) : StepW Tryz.prog ops Q a0 wADS I R false (GV (wAGS ad n cp G o c i b0 b1 b2 b3)) 11 { dst := some 25, op := .load 5 (.tmp 24), type := ty, pos := pos, after := af, guard := none } := by
 intro a w hout hI hE hdep K hK
 rw [if_pos (by simp [Region.wanted])]
 obtain ⟨v24, g24, e24⟩ := hdep ⟨10, .data⟩ h24 rfl
 have e24 := e24 24 rfl
 have g24 := g24 _ rfl
 subst g24
 have hLw := hL w hI
 clear hout hE hdep
 go_simp
 exact hK _ (gv_of rfl rs_)
theorem wA26 (h25 : (⟨11, .data⟩ : Edge) ∈ af.toList) (hb : b1 < 256) : StepW Tryz.prog ops Q a0 wADS I R false (GV (wAGS ad n cp G o c i b0 b1 b2 b3)) 12 { dst := some 26, op := .convert 5 121 (.tmp 25), type := ty, pos := pos, after := af, guard := none } := by
 intro a w hout hI hE hdep K hK
 rw [if_pos (by simp [Region.wanted])]
 obtain ⟨v25, g25, e25⟩ := hdep ⟨11, .data⟩ h25 rfl
 have e25 := e25 25 rfl
 have g25 := g25 _ rfl
 subst g25
 clear hout hE hdep
 have v : IntKind.u32.wrap (b1 : Int) = b1 := by rw [IntKind.wrap_u32]; omega
 go_simp
 exact hK _ (gv_of rfl rs_)
theorem wA27 (h26 : (⟨12, .data⟩ : Edge) ∈ af.toList) : StepW Tryz.prog ops Q a0 wADS I R false (GV (wAGS ad n cp G o c i b0 b1 b2 b3)) 13 { dst := some 27, op := .binOp .shl 121 (.tmp 26) (.const (.int .u64 16)) 49, type := ty, pos := pos, after := af, guard := none } := by
 intro a w hout hI hE hdep K hK
 rw [if_pos (by simp [Region.wanted])]
 obtain ⟨v26, g26, e26⟩ := hdep ⟨12, .data⟩ h26 rfl
 have e26 := e26 26 rfl
 have g26 := g26 _ rfl
 subst g26
 clear hout hE hdep
 go_simp
 exact hK _ (gv_of rfl rs_)
theorem wA28 (h20 : (⟨6, .data⟩ : Edge) ∈ af.toList) (h27 : (⟨13, .data⟩ : Edge) ∈ af.toList) : StepW Tryz.prog ops Q a0 wADS I R false (GV (wAGS ad n cp G o c i b0 b1 b2 b3)) 14 { dst := some 28, op := .binOp .or 121 (.tmp 20) (.tmp 27) 121, type := ty, pos := pos, after := af, guard := none } := by
 intro a w hout hI hE hdep K hK
 rw [if_pos (by simp [Region.wanted])]
 obtain ⟨v20, g20, e20⟩ := hdep ⟨6, .data⟩ h20 rfl
 have e20 := e20 20 rfl
 have g20 := g20 _ rfl
 subst g20
 obtain ⟨v27, g27, e27⟩ := hdep ⟨13, .data⟩ h27 rfl
 have e27 := e27 27 rfl
 have g27 := g27 _ rfl
 subst g27
 clear hout hE hdep
 go_simp
 exact hK _ (gv_of rfl rs_)
theorem wA29 (o0 : a0.tmps[0]? = some (.slice (some ⟨G, o, none⟩) 64 c)) : StepW Tryz.prog ops Q a0 wADS I R false (GV (wAGS ad n cp G o c i b0 b1 b2 b3)) 15 { dst := some 29, op := .move (.tmp 0), type := ty, pos := pos, after := af, guard := none } := by
 intro a w hout hI hE hdep K hK
 rw [if_pos (by simp [Region.wanted])]
 have o0w := (hout 0 de_).trans o0
 clear hout hE hdep
 clear o0
 go_simp
 exact hK _ (gv_of rfl rs_)
theorem wA30 (o4 : a0.tmps[4]? = some (.int .i64 (i : Int))) : StepW Tryz.prog ops Q a0 wADS I R false (GV (wAGS ad n cp G o c i b0 b1 b2 b3)) 16 { dst := some 30, op := .move (.tmp 4), type := ty, pos := pos, after := af, guard := none } := by
 intro a w hout hI hE hdep K hK
 rw [if_pos (by simp [Region.wanted])]
 have o4w := (hout 4 de_).trans o4
 clear hout hE hdep
 clear o4
 go_simp
 exact hK _ (gv_of rfl rs_)
theorem wA31 (h30 : (⟨16, .data⟩ : Edge) ∈ af.toList) (hi : i + 3 < 64) : StepW Tryz.prog ops Q a0 wADS I R false (GV (wAGS ad n cp G o c i b0 b1 b2 b3)) 17 { dst := some 31, op := .binOp .add 3 (.tmp 30) (.const (.int .i64 2)) 3, type := ty, pos := pos, after := af, guard := none } := by
 intro a w hout hI hE hdep K hK
 rw [if_pos (by simp [Region.wanted])]
 obtain ⟨v30, g30, e30⟩ := hdep ⟨16, .data⟩ h30 rfl
 have e30 := e30 30 rfl
 have g30 := g30 _ rfl
 subst g30
 clear hout hE hdep
 have q2 : IntKind.i64.wrap ((i : Int) + 2) = (i : Int) + 2 := IntWalk.i64_in _ om_
 go_simp
 exact hK _ (gv_of rfl rs_)
theorem wA32 (h29 : (⟨15, .data⟩ : Edge) ∈ af.toList) (h31 : (⟨17, .data⟩ : Edge) ∈ af.toList) (hi : i + 3 < 64) : StepW Tryz.prog ops Q a0 wADS I R false (GV (wAGS ad n cp G o c i b0 b1 b2 b3)) 18 { dst := some 32, op := .indexAddr 47 (.tmp 29) (.tmp 31), type := ty, pos := pos, after := af, guard := none } := by
 intro a w hout hI hE hdep K hK
 rw [if_pos (by simp [Region.wanted])]
 obtain ⟨v29, g29, e29⟩ := hdep ⟨15, .data⟩ h29 rfl
 have e29 := e29 29 rfl
 have g29 := g29 _ rfl
 subst g29
 obtain ⟨v31, g31, e31⟩ := hdep ⟨17, .data⟩ h31 rfl
 have e31 := e31 31 rfl
 have g31 := g31 _ rfl
 subst g31
 clear hout hE hdep
 have z2 : (0 : Int) ≤ (i : Int) + 2 ∧ (i : Int) + 2 < 64 := by omega
 have t2 : ((i : Int) + 2).toNat = i + 2 := by omega
 go_simp
 exact hK _ (gv_of rfl rs_)
theorem wA33 (h32 : (⟨18, .data⟩ : Edge) ∈ af.toList) (hL : ∀ w, I w → w.cell? ⟨G, o + (i + 2), none⟩ = some (.int .u8 (b2 : Int))) : StepW Tryz.prog ops Q a0 wADS I R false (GV (wAGS ad n cp G o c i b0 b1 b2 b3)) 19 { dst := some 33, op := .load 5 (.tmp 32), type := ty, pos := pos, after := af, guard := none } := by
 intro a w hout hI hE hdep K hK
 rw [if_pos (by simp [Region.wanted])]
 obtain ⟨v32, g32, e32⟩ := hdep ⟨18, .data⟩ h32 rfl
 have e32 := e32 32 rfl
 have g32 := g32 _ rfl
 subst g32
 have hLw := hL w hI
 clear hout hE hdep
 go_simp
 exact hK _ (gv_of rfl rs_)
theorem wA34 (h33 : (⟨19, .data⟩ : Edge) ∈ af.toList) (hb : b2 < 256) : StepW Tryz.prog ops Q a0 wADS I R false (GV (wAGS ad n cp G o c i b0 b1 b2 b3)) 20 { dst := some 34, op := .convert 5 121 (.tmp 33), type := ty, pos := pos, after := af, guard := none } := by
 intro a w hout hI hE hdep K hK
 rw [if_pos (by simp [Region.wanted])]
 obtain ⟨v33, g33, e33⟩ := hdep ⟨19, .data⟩ h33 rfl
 have e33 := e33 33 rfl
 have g33 := g33 _ rfl
 subst g33
 clear hout hE hdep
 have v : IntKind.u32.wrap (b2 : Int) = b2 := by rw [IntKind.wrap_u32]; omega
 go_simp
 exact hK _ (gv_of rfl rs_)
theorem wA35 (h34 : (⟨20, .data⟩ : Edge) ∈ af.toList) : StepW Tryz.prog ops Q a0 wADS I R false (GV (wAGS ad n cp G o c i b0 b1 b2 b3)) 21 { dst := some 35, op := .binOp .shl 121 (.tmp 34) (.const (.int .u64 8)) 49, type := ty, pos := pos, after := af, guard := none } := by
 intro a w hout hI hE hdep K hK
 rw [if_pos (by simp [Region.wanted])]
 obtain ⟨v34, g34, e34⟩ := hdep ⟨20, .data⟩ h34 rfl
 have e34 := e34 34 rfl
 have g34 := g34 _ rfl
 subst g34
 clear hout hE hdep
 go_simp
 exact hK _ (gv_of rfl rs_)
theorem wA36 (h28 : (⟨14, .data⟩ : Edge) ∈ af.toList) (h35 : (⟨21, .data⟩ : Edge) ∈ af.toList) : StepW Tryz.prog ops Q a0 wADS I R false (GV (wAGS ad n cp G o c i b0 b1 b2 b3)) 22 { dst := some 36, op := .binOp .or 121 (.tmp 28) (.tmp 35) 121, type := ty, pos := pos, after := af, guard := none } := by
 intro a w hout hI hE hdep K hK
 rw [if_pos (by simp [Region.wanted])]
 obtain ⟨v28, g28, e28⟩ := hdep ⟨14, .data⟩ h28 rfl
 have e28 := e28 28 rfl
 have g28 := g28 _ rfl
 subst g28
 obtain ⟨v35, g35, e35⟩ := hdep ⟨21, .data⟩ h35 rfl
 have e35 := e35 35 rfl
 have g35 := g35 _ rfl
 subst g35
 clear hout hE hdep
 go_simp
 exact hK _ (gv_of rfl rs_)
theorem wA37 (o0 : a0.tmps[0]? = some (.slice (some ⟨G, o, none⟩) 64 c)) : StepW Tryz.prog ops Q a0 wADS I R false (GV (wAGS ad n cp G o c i b0 b1 b2 b3)) 23 { dst := some 37, op := .move (.tmp 0), type := ty, pos := pos, after := af, guard := none } := by
 intro a w hout hI hE hdep K hK
 rw [if_pos (by simp [Region.wanted])]
 have o0w := (hout 0 de_).trans o0
 clear hout hE hdep
 clear o0
 go_simp
 exact hK _ (gv_of rfl rs_)
theorem wA38 (o4 : a0.tmps[4]? = some (.int .i64 (i : Int))) : StepW Tryz.prog ops Q a0 wADS I R false (GV (wAGS ad n cp G o c i b0 b1 b2 b3)) 24 { dst := some 38, op := .move (.tmp 4), type := ty, pos := pos, after := af, guard := none } := by
 intro a w hout hI hE hdep K hK
 rw [if_pos (by simp [Region.wanted])]
 have o4w := (hout 4 de_).trans o4
 clear hout hE hdep
 clear o4
 go_simp
 exact hK _ (gv_of rfl rs_)
theorem wA39 (h38 : (⟨24, .data⟩ : Edge) ∈ af.toList) (hi : i + 3 < 64) : StepW Tryz.prog ops Q a0 wADS I R false (GV (wAGS ad n cp G o c i b0 b1 b2 b3)) 25 { dst := some 39, op := .binOp .add 3 (.tmp 38) (.const (.int .i64 3)) 3, type := ty, pos := pos, after := af, guard := none } := by
 intro a w hout hI hE hdep K hK
 rw [if_pos (by simp [Region.wanted])]
 obtain ⟨v38, g38, e38⟩ := hdep ⟨24, .data⟩ h38 rfl
 have e38 := e38 38 rfl
 have g38 := g38 _ rfl
 subst g38
 clear hout hE hdep
 have q3 : IntKind.i64.wrap ((i : Int) + 3) = (i : Int) + 3 := IntWalk.i64_in _ om_
 go_simp
 exact hK _ (gv_of rfl rs_)
theorem wA40 (h37 : (⟨23, .data⟩ : Edge) ∈ af.toList) (h39 : (⟨25, .data⟩ : Edge) ∈ af.toList) (hi : i + 3 < 64) : StepW Tryz.prog ops Q a0 wADS I R false (GV (wAGS ad n cp G o c i b0 b1 b2 b3)) 26 { dst := some 40, op := .indexAddr 47 (.tmp 37) (.tmp 39), type := ty, pos := pos, after := af, guard := none } := by
 intro a w hout hI hE hdep K hK
 rw [if_pos (by simp [Region.wanted])]
 obtain ⟨v37, g37, e37⟩ := hdep ⟨23, .data⟩ h37 rfl
 have e37 := e37 37 rfl
 have g37 := g37 _ rfl
 subst g37
 obtain ⟨v39, g39, e39⟩ := hdep ⟨25, .data⟩ h39 rfl
 have e39 := e39 39 rfl
 have g39 := g39 _ rfl
 subst g39
 clear hout hE hdep
 have z3 : (0 : Int) ≤ (i : Int) + 3 ∧ (i : Int) + 3 < 64 := by omega
 have t3 : ((i : Int) + 3).toNat = i + 3 := by omega
 go_simp
 exact hK _ (gv_of rfl rs_)
theorem wA41 (h40 : (⟨26, .data⟩ : Edge) ∈ af.toList) (hL : ∀ w, I w → w.cell? ⟨G, o + (i + 3), none⟩ = some (.int .u8 (b3 : Int))) : StepW Tryz.prog ops Q a0 wADS I R false (GV (wAGS ad n cp G o c i b0 b1 b2 b3)) 27 { dst := some 41, op := .load 5 (.tmp 40), type := ty, pos := pos, after := af, guard := none } := by
 intro a w hout hI hE hdep K hK
 rw [if_pos (by simp [Region.wanted])]
 obtain ⟨v40, g40, e40⟩ := hdep ⟨26, .data⟩ h40 rfl
 have e40 := e40 40 rfl
 have g40 := g40 _ rfl
 subst g40
 have hLw := hL w hI
 clear hout hE hdep
 go_simp
 exact hK _ (gv_of rfl rs_)
theorem wA42 (h41 : (⟨27, .data⟩ : Edge) ∈ af.toList) (hb : b3 < 256) : StepW Tryz.prog ops Q a0 wADS I R false (GV (wAGS ad n cp G o c i b0 b1 b2 b3)) 28 { dst := some 42, op := .convert 5 121 (.tmp 41), type := ty, pos := pos, after := af, guard := none } := by
 intro a w hout hI hE hdep K hK
 rw [if_pos (by simp [Region.wanted])]
 obtain ⟨v41, g41, e41⟩ := hdep ⟨27, .data⟩ h41 rfl
 have e41 := e41 41 rfl
 have g41 := g41 _ rfl
 subst g41
 clear hout hE hdep
 have v : IntKind.u32.wrap (b3 : Int) = b3 := by rw [IntKind.wrap_u32]; omega
 go_simp
 exact hK _ (gv_of rfl rs_)
theorem wA43 (h36 : (⟨22, .data⟩ : Edge) ∈ af.toList) (h42 : (⟨28, .data⟩ : Edge) ∈ af.toList) : StepW Tryz.prog ops Q a0 wADS I R false (GV (wAGS ad n cp G o c i b0 b1 b2 b3)) 29 { dst := some 43, op := .binOp .or 121 (.tmp 36) (.tmp 42) 121, type := ty, pos := pos, after := af, guard := none } := by
 intro a w hout hI hE hdep K hK
 rw [if_pos (by simp [Region.wanted])]
 obtain ⟨v36, g36, e36⟩ := hdep ⟨22, .data⟩ h36 rfl
 have e36 := e36 36 rfl
 have g36 := g36 _ rfl
 subst g36
 obtain ⟨v42, g42, e42⟩ := hdep ⟨28, .data⟩ h42 rfl
 have e42 := e42 42 rfl
 have g42 := g42 _ rfl
 subst g42
 clear hout hE hdep
 go_simp
 exact hK _ (gv_of rfl rs_)
end
def wBDS : List (Option Nat) := [some 76, some 77, some 78, some 79, some 80, some 81, some 82, some 83, some 84, some 85, some 86, some 87, some 88, some 89, some 90, some 91, some 92, some 93]
def wBGS (g n cp t j16 j7 : Nat) (x16 x7 s0 s1 : Int) : List (Option Value) := [some (.slice (some ⟨g, 0, none⟩) n cp), some (.slice (some ⟨g, 0, none⟩) n cp), some (.int .i64 (t : Int)), some (.int .i64 (j16 : Int)), some (.pointer (some ⟨g, j16, none⟩)), some (.int .u32 x16), some (.int .u32 s0), some (.int .u32 (IntKind.u32.wrap (x16 + s0))), some (.slice (some ⟨g, 0, none⟩) n cp), some (.int .i64 (t : Int)), some (.int .i64 (j7 : Int)), some (.pointer (some ⟨g, j7, none⟩)), some (.int .u32 x7), some (.int .u32 (IntKind.u32.wrap ((IntKind.u32.wrap (x16 + s0)) + x7))), some (.int .u32 s1), some (.int .u32 (IntKind.u32.wrap ((IntKind.u32.wrap ((IntKind.u32.wrap (x16 + s0)) + x7)) + s1))), none, none]
section
variable {ops : Array Oper} {Q : Exit → Act → World → Prop} {a0 : Act} {I R : World → Prop} {af : Array Edge} {ty : Nat} {pos : String} {at_ : Array TypeId} {g n cp t j16 j7 : Nat} {x16 x7 s0 s1 : Int}
theorem wB76 (o3 : a0.tmps[3]? = some (.slice (some ⟨g, 0, none⟩) n cp)) : StepW Tryz.prog ops Q a0 wBDS I R false (GV (wBGS g n cp t j16 j7 x16 x7 s0 s1)) 0 { dst := some 76, op := .move (.tmp 3), type := ty, pos := pos, after := af, guard := none } := by
 intro a w hout hI hE hdep K hK
 rw [if_pos (by simp [Region.wanted])]
 have o3w := (hout 3 de_).trans o3
 clear hout hE hdep
 clear o3
 go_simp
 exact hK _ (gv_of rfl rs_)
theorem wB77 (o3 : a0.tmps[3]? = some (.slice (some ⟨g, 0, none⟩) n cp)) : StepW Tryz.prog ops Q a0 wBDS I R false (GV (wBGS g n cp t j16 j7 x16 x7 s0 s1)) 1 { dst := some 77, op := .move (.tmp 3), type := ty, pos := pos, after := af, guard := none } := by
 intro a w hout hI hE hdep K hK
 rw [if_pos (by simp [Region.wanted])]
 have o3w := (hout 3 de_).trans o3
 clear hout hE hdep
 clear o3
 go_simp
 exact hK _ (gv_of rfl rs_)
theorem wB78 (o5 : a0.tmps[5]? = some (.int .i64 (t : Int))) : StepW Tryz.prog ops Q a0 wBDS I R false (GV (wBGS g n cp t j16 j7 x16 x7 s0 s1)) 2 { dst := some 78, op := .move (.tmp 5), type := ty, pos := pos, after := af, guard := none } := by
 intro a w hout hI hE hdep K hK
 rw [if_pos (by simp [Region.wanted])]
 have o5w := (hout 5 de_).trans o5
 clear hout hE hdep
 clear o5
 go_simp
 exact hK _ (gv_of rfl rs_)
theorem wB79 (h78 : (⟨2, .data⟩ : Edge) ∈ af.toList) (hq : IntKind.i64.wrap ((t : Int) - 16) = (j16 : Int)) : StepW Tryz.prog ops Q a0 wBDS I R false (GV (wBGS g n cp t j16 j7 x16 x7 s0 s1)) 3 { dst := some 79, op := .binOp .sub 3 (.tmp 78) (.const (.int .i64 16)) 3, type := ty, pos := pos, after := af, guard := none } := by
 intro a w hout hI hE hdep K hK
 rw [if_pos (by simp [Region.wanted])]
 obtain ⟨v78, g78, e78⟩ := hdep ⟨2, .data⟩ h78 rfl
 have e78 := e78 78 rfl
 have g78 := g78 _ rfl
 subst g78
 clear hout hE hdep
 go_simp
 exact hK _ (gv_of rfl rs_)
theorem wB80 (h77 : (⟨1, .data⟩ : Edge) ∈ af.toList) (h79 : (⟨3, .data⟩ : Edge) ∈ af.toList) (hj : (0 : Int) ≤ (j16 : Int) ∧ (j16 : Int) < n) : StepW Tryz.prog ops Q a0 wBDS I R false (GV (wBGS g n cp t j16 j7 x16 x7 s0 s1)) 4 { dst := some 80, op := .indexAddr 166 (.tmp 77) (.tmp 79), type := ty, pos := pos, after := af, guard := none } := by
 intro a w hout hI hE hdep K hK
 rw [if_pos (by simp [Region.wanted])]
 obtain ⟨v77, g77, e77⟩ := hdep ⟨1, .data⟩ h77 rfl
 have e77 := e77 77 rfl
 have g77 := g77 _ rfl
 subst g77
 obtain ⟨v79, g79, e79⟩ := hdep ⟨3, .data⟩ h79 rfl
 have e79 := e79 79 rfl
 have g79 := g79 _ rfl
 subst g79
 clear hout hE hdep
 go_simp
 exact hK _ (gv_of rfl rs_)
theorem wB81 (h80 : (⟨4, .data⟩ : Edge) ∈ af.toList) (hL : ∀ w, R w → w.cell? ⟨g, j16, none⟩ = some (.int .u32 x16)) : StepW Tryz.prog ops Q a0 wBDS I R true (GV (wBGS g n cp t j16 j7 x16 x7 s0 s1)) 5 { dst := some 81, op := .load 121 (.tmp 80), type := ty, pos := pos, after := af, guard := none } := by
 intro a w hout hI hE hdep K hK
 rw [if_pos (by simp [Region.wanted])]
 obtain ⟨v80, g80, e80⟩ := hdep ⟨4, .data⟩ h80 rfl
 have e80 := e80 80 rfl
 have g80 := g80 _ rfl
 subst g80
 have hLw := hL w (hE rfl)
 clear hout hE hdep
 go_simp
 exact hK _ (gv_of rfl rs_)
theorem wB82 (o8 : a0.tmps[8]? = some (.int .u32 s0)) : StepW Tryz.prog ops Q a0 wBDS I R false (GV (wBGS g n cp t j16 j7 x16 x7 s0 s1)) 6 { dst := some 82, op := .move (.tmp 8), type := ty, pos := pos, after := af, guard := none } := by
 intro a w hout hI hE hdep K hK
 rw [if_pos (by simp [Region.wanted])]
 have o8w := (hout 8 de_).trans o8
 clear hout hE hdep
 clear o8
 go_simp
 exact hK _ (gv_of rfl rs_)
theorem wB83 (h81 : (⟨5, .data⟩ : Edge) ∈ af.toList) (h82 : (⟨6, .data⟩ : Edge) ∈ af.toList) : StepW Tryz.prog ops Q a0 wBDS I R false (GV (wBGS g n cp t j16 j7 x16 x7 s0 s1)) 7 { dst := some 83, op := .binOp .add 121 (.tmp 81) (.tmp 82) 121, type := ty, pos := pos, after := af, guard := none } := by
 intro a w hout hI hE hdep K hK
 rw [if_pos (by simp [Region.wanted])]
 obtain ⟨v81, g81, e81⟩ := hdep ⟨5, .data⟩ h81 rfl
 have e81 := e81 81 rfl
 have g81 := g81 _ rfl
 subst g81
 obtain ⟨v82, g82, e82⟩ := hdep ⟨6, .data⟩ h82 rfl
 have e82 := e82 82 rfl
 have g82 := g82 _ rfl
 subst g82
 clear hout hE hdep
 go_simp
 exact hK _ (gv_of rfl rs_)
theorem wB84 (o3 : a0.tmps[3]? = some (.slice (some ⟨g, 0, none⟩) n cp)) : StepW Tryz.prog ops Q a0 wBDS I R false (GV (wBGS g n cp t j16 j7 x16 x7 s0 s1)) 8 { dst := some 84, op := .move (.tmp 3), type := ty, pos := pos, after := af, guard := none } := by
 intro a w hout hI hE hdep K hK
 rw [if_pos (by simp [Region.wanted])]
 have o3w := (hout 3 de_).trans o3
 clear hout hE hdep
 clear o3
 go_simp
 exact hK _ (gv_of rfl rs_)
theorem wB85 (o5 : a0.tmps[5]? = some (.int .i64 (t : Int))) : StepW Tryz.prog ops Q a0 wBDS I R false (GV (wBGS g n cp t j16 j7 x16 x7 s0 s1)) 9 { dst := some 85, op := .move (.tmp 5), type := ty, pos := pos, after := af, guard := none } := by
 intro a w hout hI hE hdep K hK
 rw [if_pos (by simp [Region.wanted])]
 have o5w := (hout 5 de_).trans o5
 clear hout hE hdep
 clear o5
 go_simp
 exact hK _ (gv_of rfl rs_)
theorem wB86 (h85 : (⟨9, .data⟩ : Edge) ∈ af.toList) (hq : IntKind.i64.wrap ((t : Int) - 7) = (j7 : Int)) : StepW Tryz.prog ops Q a0 wBDS I R false (GV (wBGS g n cp t j16 j7 x16 x7 s0 s1)) 10 { dst := some 86, op := .binOp .sub 3 (.tmp 85) (.const (.int .i64 7)) 3, type := ty, pos := pos, after := af, guard := none } := by
 intro a w hout hI hE hdep K hK
 rw [if_pos (by simp [Region.wanted])]
 obtain ⟨v85, g85, e85⟩ := hdep ⟨9, .data⟩ h85 rfl
 have e85 := e85 85 rfl
 have g85 := g85 _ rfl
 subst g85
 clear hout hE hdep
 go_simp
 exact hK _ (gv_of rfl rs_)
theorem wB87 (h84 : (⟨8, .data⟩ : Edge) ∈ af.toList) (h86 : (⟨10, .data⟩ : Edge) ∈ af.toList) (hj : (0 : Int) ≤ (j7 : Int) ∧ (j7 : Int) < n) : StepW Tryz.prog ops Q a0 wBDS I R false (GV (wBGS g n cp t j16 j7 x16 x7 s0 s1)) 11 { dst := some 87, op := .indexAddr 166 (.tmp 84) (.tmp 86), type := ty, pos := pos, after := af, guard := none } := by
 intro a w hout hI hE hdep K hK
 rw [if_pos (by simp [Region.wanted])]
 obtain ⟨v84, g84, e84⟩ := hdep ⟨8, .data⟩ h84 rfl
 have e84 := e84 84 rfl
 have g84 := g84 _ rfl
 subst g84
 obtain ⟨v86, g86, e86⟩ := hdep ⟨10, .data⟩ h86 rfl
 have e86 := e86 86 rfl
 have g86 := g86 _ rfl
 subst g86
 clear hout hE hdep
 go_simp
 exact hK _ (gv_of rfl rs_)
theorem wB88 (h87 : (⟨11, .data⟩ : Edge) ∈ af.toList) (hL : ∀ w, R w → w.cell? ⟨g, j7, none⟩ = some (.int .u32 x7)) : StepW Tryz.prog ops Q a0 wBDS I R true (GV (wBGS g n cp t j16 j7 x16 x7 s0 s1)) 12 { dst := some 88, op := .load 121 (.tmp 87), type := ty, pos := pos, after := af, guard := none } := by
 intro a w hout hI hE hdep K hK
 rw [if_pos (by simp [Region.wanted])]
 obtain ⟨v87, g87, e87⟩ := hdep ⟨11, .data⟩ h87 rfl
 have e87 := e87 87 rfl
 have g87 := g87 _ rfl
 subst g87
 have hLw := hL w (hE rfl)
 clear hout hE hdep
 go_simp
 exact hK _ (gv_of rfl rs_)
theorem wB89 (h83 : (⟨7, .data⟩ : Edge) ∈ af.toList) (h88 : (⟨12, .data⟩ : Edge) ∈ af.toList) : StepW Tryz.prog ops Q a0 wBDS I R false (GV (wBGS g n cp t j16 j7 x16 x7 s0 s1)) 13 { dst := some 89, op := .binOp .add 121 (.tmp 83) (.tmp 88) 121, type := ty, pos := pos, after := af, guard := none } := by
 intro a w hout hI hE hdep K hK
 rw [if_pos (by simp [Region.wanted])]
 obtain ⟨v83, g83, e83⟩ := hdep ⟨7, .data⟩ h83 rfl
 have e83 := e83 83 rfl
 have g83 := g83 _ rfl
 subst g83
 obtain ⟨v88, g88, e88⟩ := hdep ⟨12, .data⟩ h88 rfl
 have e88 := e88 88 rfl
 have g88 := g88 _ rfl
 subst g88
 clear hout hE hdep
 go_simp
 exact hK _ (gv_of rfl rs_)
theorem wB90 (o9 : a0.tmps[9]? = some (.int .u32 s1)) : StepW Tryz.prog ops Q a0 wBDS I R false (GV (wBGS g n cp t j16 j7 x16 x7 s0 s1)) 14 { dst := some 90, op := .move (.tmp 9), type := ty, pos := pos, after := af, guard := none } := by
 intro a w hout hI hE hdep K hK
 rw [if_pos (by simp [Region.wanted])]
 have o9w := (hout 9 de_).trans o9
 clear hout hE hdep
 clear o9
 go_simp
 exact hK _ (gv_of rfl rs_)
theorem wB91 (h89 : (⟨13, .data⟩ : Edge) ∈ af.toList) (h90 : (⟨14, .data⟩ : Edge) ∈ af.toList) : StepW Tryz.prog ops Q a0 wBDS I R false (GV (wBGS g n cp t j16 j7 x16 x7 s0 s1)) 15 { dst := some 91, op := .binOp .add 121 (.tmp 89) (.tmp 90) 121, type := ty, pos := pos, after := af, guard := none } := by
 intro a w hout hI hE hdep K hK
 rw [if_pos (by simp [Region.wanted])]
 obtain ⟨v89, g89, e89⟩ := hdep ⟨13, .data⟩ h89 rfl
 have e89 := e89 89 rfl
 have g89 := g89 _ rfl
 subst g89
 obtain ⟨v90, g90, e90⟩ := hdep ⟨14, .data⟩ h90 rfl
 have e90 := e90 90 rfl
 have g90 := g90 _ rfl
 subst g90
 clear hout hE hdep
 go_simp
 exact hK _ (gv_of rfl rs_)
end
theorem ref2Words (l : List UInt8) (hl : l.length = 64) (bv : Value) (w : World) (hin : InAt bv l w) :
  Calls Tryz.prog 162 #[bv] w fun e w' => ∃ v, e = .returned v ∧ OwnW w.heap.size v (wordsB l) w' ∧ Below w.heap.size w w' := by
 obtain ⟨G, o, c, rfl, hc, hG, hcell⟩ := inAt_cells hin (by intro h; subst h; simp at hl)
 have HW : Hid (∀ k, k < 16 → _) := Lib.hid (fun k hk => words16_take k l hl hk)
 have HC := Lib.hid hcell
 clear hcell hin
 rw [hl]
 go_enter Tryz.func162, Tryz.ntmps162
 go_wp2_with fail
 go_loopw [3, 4] (fun v iv wr => ∃ (k i : Nat), k ≤ 16 ∧ i = 4 * k ∧ iv = .int .i64 (i : Int) ∧ Hid (OwnW w.heap.size v ((words16 l).take k) wr) ∧ Hid (GL [] w wr)) (fun _ iv _ => 64 - (intOf iv).toNat)
 case atStart => exact ⟨0, 0, by omega, rfl, rfl, Lib.hid (ownW_nil _ _), Lib.hid (gl_refl _ _)⟩
 case round =>
  obtain ⟨k, i, hk, hik, rfl, HO, HL⟩ := hrel
  obtain ⟨ad, cp, hv⟩ := ownW_form HO.out
  subst hv
  by_cases hlt : k < 16
  · have c0 := HC.out i om_
    have c1 := HC.out (i + 1) om_
    have c2 := HC.out (i + 2) om_
    have c3 := HC.out (i + 3) om_
    have HT := Lib.hid (HW.out k hlt)
    rw [← hik] at HT
    have HIK := Lib.hid hik
    have hi0 : (0 : Int) ≤ i := by omega
    have hi4 : i + 3 < 64 := by omega
    have hi5 : decide ((i : Int) < 64) = true := by simp; omega
    have hi6 : (i : Int) < 64 := by omega
    clear hik
    have d0 := (l.getD i 0).toNat_lt
    have d1 := (l.getD (i + 1) 0).toNat_lt
    have d2 := (l.getD (i + 2) 0).toNat_lt
    have d3 := (l.getD (i + 3) 0).toNat_lt
    generalize (l.getD i 0).toNat = b0 at *
    generalize (l.getD (i + 1) 0).toNat = b1 at *
    generalize (l.getD (i + 2) 0).toNat = b2 at *
    generalize (l.getD (i + 3) 0).toNat = b3 at *
    have hkl : ((words16 l).take k).length = k := by rw [List.length_take, words16_len 16 l om_]; omega
    have hkm : ((words16 l).take k).length ≤ 100000 := by omega
    generalize ((words16 l).take k) = m at *
    have HRUN : Hid (∀ W b, GL [] w W → OwnW w.heap.size (.slice ad m.length cp) m W → W.heap[b]? = some (.cells #[.int .u32 (word4 b0 b1 b2 b3)] 121 (0, 0)) → ∃ v' w', (Builtin.append_ #[166, 166] 166 #[.slice ad m.length cp, .slice (some ⟨b, 0, none⟩) 1 1]).run Tryz.prog W = .ok v' w' ∧ GL [] w w' ∧ OwnW w.heap.size v' (m ++ [word4 b0 b1 b2 b3]) w') := Lib.hid (fun W b hg ho hb => app_word w W w.heap.size _ m _ b ho hb hkm (Nat.le_refl _) hg.size hg)
    go_upto_region 5 with fail
    refine wp_region_T (ds := wADS) (I := (fun W => GL [] w W)) (R := (fun W => OwnW w.heap.size (.slice ad m.length cp) m W)) (B := (OneB (.int .u32 (word4 b0 b1 b2 b3)) 121)) (D := (fun v' W => OwnW w.heap.size v' (m ++ [word4 b0 b1 b2 b3]) W)) (G := GV (wAGS ad m.length cp G o c i b0 b1 b2 b3)) 32 3 30 31 _ _ de_ de_ (fun v => gv_none rfl) (fun v => gv_none rfl) (by kernel_rfl) [false, false, false, false, false, false, false, false, false, false, false, false, false, false, false, false, false, false, false, false, false, false, false, false, false, false, false, false, false, false, false, false] (by kernel_rfl) rfl (by kernel_rfl) rfl rfl rfl rfl rfl rfl rfl (distinct_of _ (by decide +kernel)) ?_ (by kernel_rfl) (gl_drew HL.out) (HO.out.drew) ?_ ?_
    · intro d hd
      exact Nat.lt_of_lt_of_le (ltB_of (n := 95) wADS (by decide +kernel) d hd) si_
    · exact ⟨wA14 si_, wA15 si_, wA16 si_, wA17 si_ si_ hi4, wA18 si_ (fun W h => cell_gl0 hG c0 h), wA19 si_ d0, wA20 si_, wA21 si_, wA22 si_, wA23 si_ hi4, wA24 si_ si_ hi4, wA25 si_ (fun W h => cell_gl0 hG c1 h), wA26 si_ d1, wA27 si_, wA28 si_ si_, wA29 si_, wA30 si_, wA31 si_ hi4, wA32 si_ si_ hi4, wA33 si_ (fun W h => cell_gl0 hG c2 h), wA34 si_ d2, wA35 si_, wA36 si_ si_, wA37 si_, wA38 si_, wA39 si_ hi4, wA40 si_ si_ hi4, wA41 si_ (fun W h => cell_gl0 hG c3 h), wA42 si_ d3, wA43 si_ si_, stepB_one (j := 29) (build_u32 _) (fun W o h => gl_alloc h o) (fun W o h => own_alloc h o) si_ rfl (fun v hv => hv _ rfl), stepA_app (j1 := 0) rfl HRUN.out si_ rfl (fun v hv => hv _ rfl), trivial⟩
    · intro vs w' u hl hv hI hua hD
      have hl0 : vs.length = 32 := hl
      clear hl
      obtain ⟨x0, r0, rfl, hl1⟩ := cons_of hl0
      clear hl0
      obtain ⟨x1, r1, rfl, hl2⟩ := cons_of hl1
      clear hl1
      obtain ⟨x2, r2, rfl, hl3⟩ := cons_of hl2
      clear hl2
      obtain ⟨x3, r3, rfl, hl4⟩ := cons_of hl3
      clear hl3
      obtain ⟨x4, r4, rfl, hl5⟩ := cons_of hl4
      clear hl4
      obtain ⟨x5, r5, rfl, hl6⟩ := cons_of hl5
      clear hl5
      obtain ⟨x6, r6, rfl, hl7⟩ := cons_of hl6
      clear hl6
      obtain ⟨x7, r7, rfl, hl8⟩ := cons_of hl7
      clear hl7
      obtain ⟨x8, r8, rfl, hl9⟩ := cons_of hl8
      clear hl8
      obtain ⟨x9, r9, rfl, hl10⟩ := cons_of hl9
      clear hl9
      obtain ⟨x10, r10, rfl, hl11⟩ := cons_of hl10
      clear hl10
      obtain ⟨x11, r11, rfl, hl12⟩ := cons_of hl11
      clear hl11
      obtain ⟨x12, r12, rfl, hl13⟩ := cons_of hl12
      clear hl12
      obtain ⟨x13, r13, rfl, hl14⟩ := cons_of hl13
      clear hl13
      obtain ⟨x14, r14, rfl, hl15⟩ := cons_of hl14
      clear hl14
      obtain ⟨x15, r15, rfl, hl16⟩ := cons_of hl15
      clear hl15
      obtain ⟨x16, r16, rfl, hl17⟩ := cons_of hl16
      clear hl16
      obtain ⟨x17, r17, rfl, hl18⟩ := cons_of hl17
      clear hl17
      obtain ⟨x18, r18, rfl, hl19⟩ := cons_of hl18
      clear hl18
      obtain ⟨x19, r19, rfl, hl20⟩ := cons_of hl19
      clear hl19
      obtain ⟨x20, r20, rfl, hl21⟩ := cons_of hl20
      clear hl20
      obtain ⟨x21, r21, rfl, hl22⟩ := cons_of hl21
      clear hl21
      obtain ⟨x22, r22, rfl, hl23⟩ := cons_of hl22
      clear hl22
      obtain ⟨x23, r23, rfl, hl24⟩ := cons_of hl23
      clear hl23
      obtain ⟨x24, r24, rfl, hl25⟩ := cons_of hl24
      clear hl24
      obtain ⟨x25, r25, rfl, hl26⟩ := cons_of hl25
      clear hl25
      obtain ⟨x26, r26, rfl, hl27⟩ := cons_of hl26
      clear hl26
      obtain ⟨x27, r27, rfl, hl28⟩ := cons_of hl27
      clear hl27
      obtain ⟨x28, r28, rfl, hl29⟩ := cons_of hl28
      clear hl28
      obtain ⟨x29, r29, rfl, hl30⟩ := cons_of hl29
      clear hl29
      obtain ⟨x30, r30, rfl, hl31⟩ := cons_of hl30
      clear hl30
      obtain ⟨x31, r31, rfl, hl32⟩ := cons_of hl31
      clear hl31
      have hua2 : x31 = u := by simpa using hua
      subst hua2
      obtain rfl : r31 = [] := List.eq_nil_of_length_eq_zero hl32
      clear hv hua
      simp only [wADS, setAll, List.setIfInBounds_toArray, List.set_cons_zero, List.set_cons_succ]
      go_wp2_with fail
      exact ⟨⟨k + 1, i + 4, by omega, by have := HIK.out; omega, by go_num, Lib.hid (by rw [HT.out]; exact hD), Lib.hid hI⟩, by simp [intOf]; omega⟩
  · obtain rfl : k = 16 := by omega
    obtain rfl : i = 64 := by omega
    have hk16 : (List.take 16 (words16 l)).length = 16 := by rw [List.length_take, words16_len 16 l om_]; rfl
    rw [hk16] at HO ⊢
    rw [List.take_of_length_le (by rw [words16_len 16 l om_]; omega)] at HO
    clear hk16
    have HL16 := Lib.hid (words16_len 16 l om_)
    clear hlt HC HW
    go_wp2_with fail
    go_loopw [3, 5] (fun v iv wq => ∃ (t : Nat), 16 ≤ t ∧ t ≤ 64 ∧ iv = .int .i64 (t : Int) ∧ Hid (OwnW w.heap.size v (moreW (t - 16) (words16 l)) wq) ∧ Hid (GL [] w wq)) (fun _ iv _ => 64 - (intOf iv).toNat)
    case atStart => exact ⟨16, by omega, by omega, rfl, HO, HL⟩
    case round =>
     obtain ⟨t, ht1, ht2, rfl, HO2, HL2⟩ := hrel
     have hml : (moreW (t - 16) (words16 l)).length = t := by rw [moreW_len, HL16.out]; omega
     obtain ⟨g, cp, hv, hcp, hgl, hcell⟩ := ownW_in HO2.out (fun e => by rw [e] at hml; simp at hml; omega)
     subst hv
     rw [hml] at hcp HO2
     rw [hml]
     clear hcell
     by_cases hlt : t < 64
     · have hT := moreW_succ (t - 16) (words16 l)
       rw [show t - 16 + 1 = t + 1 - 16 by omega] at hT
       simp only [hml] at hT
       generalize moreW (t - 16) (words16 l) = m at *
       obtain ⟨j16, e16⟩ : ∃ j : Nat, j = t - 16 := ⟨_, rfl⟩
       obtain ⟨j15, e15⟩ : ∃ j : Nat, j = t - 15 := ⟨_, rfl⟩
       obtain ⟨j7, e7⟩ : ∃ j : Nat, j = t - 7 := ⟨_, rfl⟩
       obtain ⟨j2, e2⟩ : ∃ j : Nat, j = t - 2 := ⟨_, rfl⟩
       rw [← e16, ← e15, ← e7, ← e2] at hT
       have q16 : IntKind.i64.wrap ((t : Int) - 16) = (j16 : Int) := by rw [IntWalk.i64_in _ om_]; omega
       have q15 : IntKind.i64.wrap ((t : Int) - 15) = (j15 : Int) := by rw [IntWalk.i64_in _ om_]; omega
       have q7 : IntKind.i64.wrap ((t : Int) - 7) = (j7 : Int) := by rw [IntWalk.i64_in _ om_]; omega
       have q2 : IntKind.i64.wrap ((t : Int) - 2) = (j2 : Int) := by rw [IntWalk.i64_in _ om_]; omega
       have l16 : (0 : Int) ≤ (j16 : Int) ∧ (j16 : Int) < t := by omega
       have l15 : (0 : Int) ≤ (j15 : Int) ∧ (j15 : Int) < t := by omega
       have l7 : (0 : Int) ≤ (j7 : Int) ∧ (j7 : Int) < t := by omega
       have l2 : (0 : Int) ≤ (j2 : Int) ∧ (j2 : Int) < t := by omega
       have hj16 : j16 < m.length := by omega
       have hj15 : j15 < m.length := by omega
       have hj7 : j7 < m.length := by omega
       have hj2 : j2 < m.length := by omega
       have hml2 : m.length ≤ 100000 := by omega
       obtain ⟨x16, h16⟩ : ∃ x, m.getD j16 0 = x := ⟨_, rfl⟩
       obtain ⟨x15, h15⟩ : ∃ x, m.getD j15 0 = x := ⟨_, rfl⟩
       obtain ⟨x7, h7⟩ : ∃ x, m.getD j7 0 = x := ⟨_, rfl⟩
       obtain ⟨x2, h2⟩ : ∃ x, m.getD j2 0 = x := ⟨_, rfl⟩
       rw [h16, h15, h7, h2] at hT
       have HT := Lib.hid hT
       clear hT
       have c15 := ownW_cell HO2.out hj15 h15
       have c2 := ownW_cell HO2.out hj2 h2
       have L16 := Lib.hid (And.intro hj16 h16)
       have L7 := Lib.hid (And.intro hj7 h7)
       have hML := Lib.hid hml
       clear hj16 hj15 hj7 hj2 h16 h15 h7 h2 e16 e15 e7 e2 hml
       have hi5 : decide ((t : Int) < 64) = true := by simp; omega
       have hi6 : (t : Int) < 64 := by omega
       go_wp2_with fail
       go_region
       clear c15 c2
       have HO3 : Hid (OwnW w.heap.size (.slice (some ⟨g, 0, none⟩) t cp) m wr.drew) := Lib.hid HO2.out.drew
       have HL3 : Hid (GL [] w wr.drew) := Lib.hid (gl_drew HL2.out)
       clear HO2 HL2
       generalize wr.drew = w3 at *
       go_wp2_with fail
       refine (ref2Turn 7 7 rfl om_ om_ x15 _).mono ?_
       rintro e v0 ⟨rfl, rfl⟩
       go_wp2_with fail
       refine (ref2Turn 18 18 rfl om_ om_ x15 _).mono ?_
       rintro e v1 ⟨rfl, rfl⟩
       go_wp2_with fail
       refine (ref2Turn 17 17 rfl om_ om_ x2 _).mono ?_
       rintro e v2 ⟨rfl, rfl⟩
       go_wp2_with fail
       refine (ref2Turn 19 19 rfl om_ om_ x2 _).mono ?_
       rintro e v3 ⟨rfl, rfl⟩
       go_upto_region 12 with fail
       generalize hg0 : bits .xor .u32 (bits .xor .u32 (rotr 7 x15) (rotr 18 x15)) (x15 / 8) = s0
       generalize hg1 : bits .xor .u32 (bits .xor .u32 (rotr 17 x2) (rotr 19 x2)) (x2 / 1024) = s1
       have HNX : Hid (nextW x16 x15 x7 x2 = IntKind.u32.wrap (IntKind.u32.wrap (IntKind.u32.wrap (x16 + s0) + x7) + s1)) := Lib.hid (by rw [← hg0, ← hg1]; rfl)
       clear hg0 hg1
       have HO4 : Hid (OwnW w.heap.size (.slice (some ⟨g, 0, none⟩) t cp) m w3.drew.drew.drew.drew) := Lib.hid HO3.out.drew.drew.drew.drew
       have HL4 : Hid (GL [] w w3.drew.drew.drew.drew) := Lib.hid (gl_drew (gl_drew (gl_drew (gl_drew HL3.out))))
       clear HO3 HL3
       generalize w3.drew.drew.drew.drew = w4 at *
       have HRUN : Hid (∀ W b, GL [] w W → OwnW w.heap.size (.slice (some ⟨g, 0, none⟩) t cp) m W → W.heap[b]? = some (.cells #[.int .u32 (IntKind.u32.wrap (IntKind.u32.wrap (IntKind.u32.wrap (x16 + s0) + x7) + s1))] 121 (0, 0)) → ∃ v' w', (Builtin.append_ #[166, 166] 166 #[.slice (some ⟨g, 0, none⟩) t cp, .slice (some ⟨b, 0, none⟩) 1 1]).run Tryz.prog W = .ok v' w' ∧ GL [] w w' ∧ OwnW w.heap.size v' (m ++ [IntKind.u32.wrap (IntKind.u32.wrap (IntKind.u32.wrap (x16 + s0) + x7) + s1)]) w') := Lib.hid (fun W b hg ho hb => app_word w W w.heap.size _ m _ b ho hb hml2 (Nat.le_refl _) hg.size hg)
       refine wp_region_T (ds := wBDS) (I := (fun W => GL [] w W)) (R := (fun W => OwnW w.heap.size (.slice (some ⟨g, 0, none⟩) t cp) m W)) (B := (OneB (.int .u32 (IntKind.u32.wrap (IntKind.u32.wrap (IntKind.u32.wrap (x16 + s0) + x7) + s1))) 121)) (D := (fun v' W => OwnW w.heap.size v' (m ++ [IntKind.u32.wrap (IntKind.u32.wrap (IntKind.u32.wrap (x16 + s0) + x7) + s1)]) W)) (G := GV (wBGS g t cp t j16 j7 x16 x7 s0 s1)) 18 3 16 17 _ _ de_ de_ (fun v => gv_none rfl) (fun v => gv_none rfl) (by kernel_rfl) [false, false, false, false, false, true, false, false, false, false, false, false, true, false, false, false, false, false] (by kernel_rfl) rfl (by kernel_rfl) rfl rfl rfl rfl rfl rfl rfl (distinct_of _ (by decide +kernel)) ?_ (by kernel_rfl) (gl_drew HL4.out) (HO4.out.drew) ?_ ?_
       · intro d hd
         exact Nat.lt_of_lt_of_le (ltB_of (n := 95) wBDS (by decide +kernel) d hd) si_
       · exact ⟨wB76 si_, wB77 si_, wB78 si_, wB79 si_ q16, wB80 si_ si_ l16, wB81 si_ (fun W h => ownW_cell h L16.out.1 L16.out.2), wB82 si_, wB83 si_ si_, wB84 si_, wB85 si_, wB86 si_ q7, wB87 si_ si_ l7, wB88 si_ (fun W h => ownW_cell h L7.out.1 L7.out.2), wB89 si_ si_, wB90 si_, wB91 si_ si_, stepB_one (j := 15) (build_u32 _) (fun W o h => gl_alloc h o) (fun W o h => own_alloc h o) si_ rfl (fun v hv => hv _ rfl), stepA_app (j1 := 0) rfl HRUN.out si_ rfl (fun v hv => hv _ rfl), trivial⟩
       · intro vs w' u hl hv hI hua hD
         have hl0 : vs.length = 18 := hl
         clear hl
         obtain ⟨x0, r0, rfl, hl1⟩ := cons_of hl0
         clear hl0
         obtain ⟨x1, r1, rfl, hl2⟩ := cons_of hl1
         clear hl1
         obtain ⟨x2, r2, rfl, hl3⟩ := cons_of hl2
         clear hl2
         obtain ⟨x3, r3, rfl, hl4⟩ := cons_of hl3
         clear hl3
         obtain ⟨x4, r4, rfl, hl5⟩ := cons_of hl4
         clear hl4
         obtain ⟨x5, r5, rfl, hl6⟩ := cons_of hl5
         clear hl5
         obtain ⟨x6, r6, rfl, hl7⟩ := cons_of hl6
         clear hl6
         obtain ⟨x7, r7, rfl, hl8⟩ := cons_of hl7
         clear hl7
         obtain ⟨x8, r8, rfl, hl9⟩ := cons_of hl8
         clear hl8
         obtain ⟨x9, r9, rfl, hl10⟩ := cons_of hl9
         clear hl9
         obtain ⟨x10, r10, rfl, hl11⟩ := cons_of hl10
         clear hl10
         obtain ⟨x11, r11, rfl, hl12⟩ := cons_of hl11
         clear hl11
         obtain ⟨x12, r12, rfl, hl13⟩ := cons_of hl12
         clear hl12
         obtain ⟨x13, r13, rfl, hl14⟩ := cons_of hl13
         clear hl13
         obtain ⟨x14, r14, rfl, hl15⟩ := cons_of hl14
         clear hl14
         obtain ⟨x15, r15, rfl, hl16⟩ := cons_of hl15
         clear hl15
         obtain ⟨x16, r16, rfl, hl17⟩ := cons_of hl16
         clear hl16
         obtain ⟨x17, r17, rfl, hl18⟩ := cons_of hl17
         clear hl17
         have hua2 : x17 = u := by simpa using hua
         subst hua2
         obtain rfl : r17 = [] := List.eq_nil_of_length_eq_zero hl18
         clear hv hua
         simp only [wBDS, setAll, List.setIfInBounds_toArray, List.set_cons_zero, List.set_cons_succ]
         go_wp2_with fail
         exact ⟨⟨t + 1, by omega, by omega, by go_num, Lib.hid (by rw [HT.out, HNX.out]; exact hD), Lib.hid hI⟩, by simp [intOf]; omega⟩
     · obtain rfl : t = 64 := by omega
       go_wp2_with fail
       exact bodyPost_ret (v := .slice (some ⟨g, 0, none⟩) 64 cp) (by simp [results, Tryz.results162, go_sem]) rfl ⟨_, rfl, HO2.out, gl_to_below HL2.out⟩
theorem kTab_wL : wL kTab = [.int .u32 0x428a2f98, .int .u32 0x71374491, .int .u32 0xb5c0fbcf, .int .u32 0xe9b5dba5, .int .u32 0x3956c25b, .int .u32 0x59f111f1, .int .u32 0x923f82a4, .int .u32 0xab1c5ed5, .int .u32 0xd807aa98, .int .u32 0x12835b01, .int .u32 0x243185be, .int .u32 0x550c7dc3, .int .u32 0x72be5d74, .int .u32 0x80deb1fe, .int .u32 0x9bdc06a7, .int .u32 0xc19bf174, .int .u32 0xe49b69c1, .int .u32 0xefbe4786, .int .u32 0x0fc19dc6, .int .u32 0x240ca1cc, .int .u32 0x2de92c6f, .int .u32 0x4a7484aa, .int .u32 0x5cb0a9dc, .int .u32 0x76f988da, .int .u32 0x983e5152, .int .u32 0xa831c66d, .int .u32 0xb00327c8, .int .u32 0xbf597fc7, .int .u32 0xc6e00bf3, .int .u32 0xd5a79147, .int .u32 0x06ca6351, .int .u32 0x14292967, .int .u32 0x27b70a85, .int .u32 0x2e1b2138, .int .u32 0x4d2c6dfc, .int .u32 0x53380d13, .int .u32 0x650a7354, .int .u32 0x766a0abb, .int .u32 0x81c2c92e, .int .u32 0x92722c85, .int .u32 0xa2bfe8a1, .int .u32 0xa81a664b, .int .u32 0xc24b8b70, .int .u32 0xc76c51a3, .int .u32 0xd192e819, .int .u32 0xd6990624, .int .u32 0xf40e3585, .int .u32 0x106aa070, .int .u32 0x19a4c116, .int .u32 0x1e376c08, .int .u32 0x2748774c, .int .u32 0x34b0bcb5, .int .u32 0x391c0cb3, .int .u32 0x4ed8aa4a, .int .u32 0x5b9cca4f, .int .u32 0x682e6ff3, .int .u32 0x748f82ee, .int .u32 0x78a5636f, .int .u32 0x84c87814, .int .u32 0x8cc70208, .int .u32 0x90befffa, .int .u32 0xa4506ceb, .int .u32 0xbef9a3f7, .int .u32 0xc67178f2] := rfl
theorem inW_blk {g c T : Nat} {l : List Int} {W : World} (hb : W.heap[g]? = some (.cells (wL l).toArray T (0, 0))) (hc : l.length ≤ c) : InW (.slice (some ⟨g, 0, none⟩) l.length c) l W := by
 refine ⟨g, c, rfl, hc, blk_lt hb, fun j hj => ?_⟩
 rw [blk_cell hb]
 simp [wL, hj]
theorem ref2Consts (w : World) :
  Calls Tryz.prog 161 #[] w fun e w' => ∃ v, e = .returned v ∧ InW v kTab w' ∧ Below w.heap.size w w' := by
 go_enter Tryz.func161, Tryz.ntmps161
 go_wp2_with fail
 have hb := blk_new w (.cells (wL kTab).toArray 121)
 rw [kTab_wL] at hb
 refine bodyPost_ret (v := .slice (some ⟨w.heap.size, 0, none⟩) 64 64) (by simp [results, Tryz.results161, go_sem]) rfl ⟨_, rfl, ?_, bl_⟩
 refine inW_blk (l := kTab) (T := 121) ?_ de_
 rw [kTab_wL]
 exact hb
def tkDS : List (Option Nat) := [some 49, some 50, some 51, some 52, some 53, some 54, some 55, some 56, some 57, some 58, some 59, some 60, some 61, some 62, some 63, some 64, some 65, some 66, some 67, some 68, some 69, some 70, some 71, some 72, some 73, some 74, some 75, some 76, some 77, some 16]
def tkGS (g1 c1 g2 c2 i : Nat) (t : S8) (kv wv : Int) : List (Option Value) := [some (.int .u32 (t.h)), some (.int .u32 (t.e)), some (.int .u32 (rotr 6 t.e)), some (.int .u32 (t.e)), some (.int .u32 (rotr 11 t.e)), some (.int .u32 (xo (rotr 6 t.e) (rotr 11 t.e))), some (.int .u32 (t.e)), some (.int .u32 (rotr 25 t.e)), some (.int .u32 (xo (xo (rotr 6 t.e) (rotr 11 t.e)) (rotr 25 t.e))), some (.int .u32 (u32 (t.h + xo (xo (rotr 6 t.e) (rotr 11 t.e)) (rotr 25 t.e)))), some (.int .u32 (t.e)), some (.int .u32 (t.f)), some (.int .u32 (an t.e t.f)), some (.int .u32 (t.e)), some (.int .u32 (nt t.e)), some (.int .u32 (t.g)), some (.int .u32 (an (nt t.e) t.g)), some (.int .u32 (xo (an t.e t.f) (an (nt t.e) t.g))), some (.int .u32 (u32 (u32 (t.h + xo (xo (rotr 6 t.e) (rotr 11 t.e)) (rotr 25 t.e)) + xo (an t.e t.f) (an (nt t.e) t.g)))), some (.slice (some ⟨g1, 0, none⟩) 64 c1), some (.int .i64 (i : Int)), some (.pointer (some ⟨g1, i, none⟩)), some (.int .u32 (kv)), some (.int .u32 (u32 (u32 (u32 (t.h + xo (xo (rotr 6 t.e) (rotr 11 t.e)) (rotr 25 t.e)) + xo (an t.e t.f) (an (nt t.e) t.g)) + kv))), some (.slice (some ⟨g2, 0, none⟩) 64 c2), some (.int .i64 (i : Int)), some (.pointer (some ⟨g2, i, none⟩)), some (.int .u32 (wv)), some (.int .u32 (rX t kv wv)), some (.int .u32 (rX t kv wv))]
section
variable {ops : Array Oper} {Q : Exit → Act → World → Prop} {a0 : Act} {I : World → Prop} {af : Array Edge} {ty : Nat} {pos : String} {at_ : Array TypeId} {g1 c1 g2 c2 i : Nat} {t : S8} {kv wv : Int}
theorem tk49 (o14 : a0.tmps[14]? = some (.int .u32 (t.h))) : StepI Tryz.prog ops Q a0 tkDS I (GV (tkGS g1 c1 g2 c2 i t kv wv)) 0 { dst := some 49, op := .move (.tmp 14), type := ty, pos := pos, after := af, guard := none } := by
 intro a w hout hI hdep K hK
 rw [if_pos (by simp [Region.wanted])]
 have o14w := (hout 14 de_).trans o14
 clear hout hdep
 clear o14
 go_simp
 exact hK _ _ (gv_of rfl rs_) hI
theorem tk50 (o11 : a0.tmps[11]? = some (.int .u32 (t.e))) : StepI Tryz.prog ops Q a0 tkDS I (GV (tkGS g1 c1 g2 c2 i t kv wv)) 1 { dst := some 50, op := .move (.tmp 11), type := ty, pos := pos, after := af, guard := none } := by
 intro a w hout hI hdep K hK
 rw [if_pos (by simp [Region.wanted])]
 have o11w := (hout 11 de_).trans o11
 clear hout hdep
 clear o11
 go_simp
 exact hK _ _ (gv_of rfl rs_) hI
theorem tk51 (h50 : (⟨1, .data⟩ : Edge) ∈ af.toList) (hC : ∀ w, I w → Calls Tryz.prog 163 #[.int .u32 (t.e), .int .i64 6] w fun e w' => e = .returned (.int .u32 (rotr 6 t.e)) ∧ I w') : StepI Tryz.prog ops Q a0 tkDS I (GV (tkGS g1 c1 g2 c2 i t kv wv)) 2 { dst := some 51, op := .call { callee := .value (.func 163), args := #[.tmp 50, .const (.int .i64 6)], argTypes := at_ }, type := ty, pos := pos, after := af, guard := none } := by
 intro a w hout hI hdep K hK
 rw [if_pos (by simp [Region.wanted])]
 obtain ⟨v50, g50, e50⟩ := hdep ⟨1, .data⟩ h50 rfl
 have e50 := e50 50 rfl
 have g50 := g50 _ rfl
 subst g50
 clear hout hdep
 go_simp
 refine (hC w hI).mono ?_
 rintro e w1 ⟨rfl, hI1⟩
 exact hK _ _ (gv_of rfl rfl) hI1
theorem tk52 (o11 : a0.tmps[11]? = some (.int .u32 (t.e))) : StepI Tryz.prog ops Q a0 tkDS I (GV (tkGS g1 c1 g2 c2 i t kv wv)) 3 { dst := some 52, op := .move (.tmp 11), type := ty, pos := pos, after := af, guard := none } := by
 intro a w hout hI hdep K hK
 rw [if_pos (by simp [Region.wanted])]
 have o11w := (hout 11 de_).trans o11
 clear hout hdep
 clear o11
 go_simp
 exact hK _ _ (gv_of rfl rs_) hI
theorem tk53 (h52 : (⟨3, .data⟩ : Edge) ∈ af.toList) (hC : ∀ w, I w → Calls Tryz.prog 163 #[.int .u32 (t.e), .int .i64 11] w fun e w' => e = .returned (.int .u32 (rotr 11 t.e)) ∧ I w') : StepI Tryz.prog ops Q a0 tkDS I (GV (tkGS g1 c1 g2 c2 i t kv wv)) 4 { dst := some 53, op := .call { callee := .value (.func 163), args := #[.tmp 52, .const (.int .i64 11)], argTypes := at_ }, type := ty, pos := pos, after := af, guard := none } := by
 intro a w hout hI hdep K hK
 rw [if_pos (by simp [Region.wanted])]
 obtain ⟨v52, g52, e52⟩ := hdep ⟨3, .data⟩ h52 rfl
 have e52 := e52 52 rfl
 have g52 := g52 _ rfl
 subst g52
 clear hout hdep
 go_simp
 refine (hC w hI).mono ?_
 rintro e w1 ⟨rfl, hI1⟩
 exact hK _ _ (gv_of rfl rfl) hI1
theorem tk54 (h51 : (⟨2, .data⟩ : Edge) ∈ af.toList) (h53 : (⟨4, .data⟩ : Edge) ∈ af.toList) : StepI Tryz.prog ops Q a0 tkDS I (GV (tkGS g1 c1 g2 c2 i t kv wv)) 5 { dst := some 54, op := .binOp .xor 121 (.tmp 51) (.tmp 53) 121, type := ty, pos := pos, after := af, guard := none } := by
 intro a w hout hI hdep K hK
 rw [if_pos (by simp [Region.wanted])]
 obtain ⟨v51, g51, e51⟩ := hdep ⟨2, .data⟩ h51 rfl
 have e51 := e51 51 rfl
 have g51 := g51 _ rfl
 subst g51
 obtain ⟨v53, g53, e53⟩ := hdep ⟨4, .data⟩ h53 rfl
 have e53 := e53 53 rfl
 have g53 := g53 _ rfl
 subst g53
 clear hout hdep
 go_simp
 exact hK _ _ (gv_of rfl rs_) hI
theorem tk55 (o11 : a0.tmps[11]? = some (.int .u32 (t.e))) : StepI Tryz.prog ops Q a0 tkDS I (GV (tkGS g1 c1 g2 c2 i t kv wv)) 6 { dst := some 55, op := .move (.tmp 11), type := ty, pos := pos, after := af, guard := none } := by
 intro a w hout hI hdep K hK
 rw [if_pos (by simp [Region.wanted])]
 have o11w := (hout 11 de_).trans o11
 clear hout hdep
 clear o11
 go_simp
 exact hK _ _ (gv_of rfl rs_) hI
theorem tk56 (h55 : (⟨6, .data⟩ : Edge) ∈ af.toList) (hC : ∀ w, I w → Calls Tryz.prog 163 #[.int .u32 (t.e), .int .i64 25] w fun e w' => e = .returned (.int .u32 (rotr 25 t.e)) ∧ I w') : StepI Tryz.prog ops Q a0 tkDS I (GV (tkGS g1 c1 g2 c2 i t kv wv)) 7 { dst := some 56, op := .call { callee := .value (.func 163), args := #[.tmp 55, .const (.int .i64 25)], argTypes := at_ }, type := ty, pos := pos, after := af, guard := none } := by
 intro a w hout hI hdep K hK
 rw [if_pos (by simp [Region.wanted])]
 obtain ⟨v55, g55, e55⟩ := hdep ⟨6, .data⟩ h55 rfl
 have e55 := e55 55 rfl
 have g55 := g55 _ rfl
 subst g55
 clear hout hdep
 go_simp
 refine (hC w hI).mono ?_
 rintro e w1 ⟨rfl, hI1⟩
 exact hK _ _ (gv_of rfl rfl) hI1
theorem tk57 (h54 : (⟨5, .data⟩ : Edge) ∈ af.toList) (h56 : (⟨7, .data⟩ : Edge) ∈ af.toList) : StepI Tryz.prog ops Q a0 tkDS I (GV (tkGS g1 c1 g2 c2 i t kv wv)) 8 { dst := some 57, op := .binOp .xor 121 (.tmp 54) (.tmp 56) 121, type := ty, pos := pos, after := af, guard := none } := by
 intro a w hout hI hdep K hK
 rw [if_pos (by simp [Region.wanted])]
 obtain ⟨v54, g54, e54⟩ := hdep ⟨5, .data⟩ h54 rfl
 have e54 := e54 54 rfl
 have g54 := g54 _ rfl
 subst g54
 obtain ⟨v56, g56, e56⟩ := hdep ⟨7, .data⟩ h56 rfl
 have e56 := e56 56 rfl
 have g56 := g56 _ rfl
 subst g56
 clear hout hdep
 go_simp
 exact hK _ _ (gv_of rfl rs_) hI
theorem tk58 (h49 : (⟨0, .data⟩ : Edge) ∈ af.toList) (h57 : (⟨8, .data⟩ : Edge) ∈ af.toList) : StepI Tryz.prog ops Q a0 tkDS I (GV (tkGS g1 c1 g2 c2 i t kv wv)) 9 { dst := some 58, op := .binOp .add 121 (.tmp 49) (.tmp 57) 121, type := ty, pos := pos, after := af, guard := none } := by
 intro a w hout hI hdep K hK
 rw [if_pos (by simp [Region.wanted])]
 obtain ⟨v49, g49, e49⟩ := hdep ⟨0, .data⟩ h49 rfl
 have e49 := e49 49 rfl
 have g49 := g49 _ rfl
 subst g49
 obtain ⟨v57, g57, e57⟩ := hdep ⟨8, .data⟩ h57 rfl
 have e57 := e57 57 rfl
 have g57 := g57 _ rfl
 subst g57
 clear hout hdep
 go_simp
 exact hK _ _ (gv_of rfl rs_) hI
theorem tk59 (o11 : a0.tmps[11]? = some (.int .u32 (t.e))) : StepI Tryz.prog ops Q a0 tkDS I (GV (tkGS g1 c1 g2 c2 i t kv wv)) 10 { dst := some 59, op := .move (.tmp 11), type := ty, pos := pos, after := af, guard := none } := by
 intro a w hout hI hdep K hK
 rw [if_pos (by simp [Region.wanted])]
 have o11w := (hout 11 de_).trans o11
 clear hout hdep
 clear o11
 go_simp
 exact hK _ _ (gv_of rfl rs_) hI
theorem tk60 (o12 : a0.tmps[12]? = some (.int .u32 (t.f))) : StepI Tryz.prog ops Q a0 tkDS I (GV (tkGS g1 c1 g2 c2 i t kv wv)) 11 { dst := some 60, op := .move (.tmp 12), type := ty, pos := pos, after := af, guard := none } := by
 intro a w hout hI hdep K hK
 rw [if_pos (by simp [Region.wanted])]
 have o12w := (hout 12 de_).trans o12
 clear hout hdep
 clear o12
 go_simp
 exact hK _ _ (gv_of rfl rs_) hI
theorem tk61 (h59 : (⟨10, .data⟩ : Edge) ∈ af.toList) (h60 : (⟨11, .data⟩ : Edge) ∈ af.toList) : StepI Tryz.prog ops Q a0 tkDS I (GV (tkGS g1 c1 g2 c2 i t kv wv)) 12 { dst := some 61, op := .binOp .and 121 (.tmp 59) (.tmp 60) 121, type := ty, pos := pos, after := af, guard := none } := by
 intro a w hout hI hdep K hK
 rw [if_pos (by simp [Region.wanted])]
 obtain ⟨v59, g59, e59⟩ := hdep ⟨10, .data⟩ h59 rfl
 have e59 := e59 59 rfl
 have g59 := g59 _ rfl
 subst g59
 obtain ⟨v60, g60, e60⟩ := hdep ⟨11, .data⟩ h60 rfl
 have e60 := e60 60 rfl
 have g60 := g60 _ rfl
 subst g60
 clear hout hdep
 go_simp
 exact hK _ _ (gv_of rfl rs_) hI
theorem tk62 (o11 : a0.tmps[11]? = some (.int .u32 (t.e))) : StepI Tryz.prog ops Q a0 tkDS I (GV (tkGS g1 c1 g2 c2 i t kv wv)) 13 { dst := some 62, op := .move (.tmp 11), type := ty, pos := pos, after := af, guard := none } := by
 intro a w hout hI hdep K hK
 rw [if_pos (by simp [Region.wanted])]
 have o11w := (hout 11 de_).trans o11
 clear hout hdep
 clear o11
 go_simp
 exact hK _ _ (gv_of rfl rs_) hI
theorem tk63 (h62 : (⟨13, .data⟩ : Edge) ∈ af.toList) : StepI Tryz.prog ops Q a0 tkDS I (GV (tkGS g1 c1 g2 c2 i t kv wv)) 14 { dst := some 63, op := .unOp .xor 121 (.tmp 62), type := ty, pos := pos, after := af, guard := none } := by
 intro a w hout hI hdep K hK
 rw [if_pos (by simp [Region.wanted])]
 obtain ⟨v62, g62, e62⟩ := hdep ⟨13, .data⟩ h62 rfl
 have e62 := e62 62 rfl
 have g62 := g62 _ rfl
 subst g62
 clear hout hdep
 go_simp
 exact hK _ _ (gv_of rfl rfl) hI
theorem tk64 (o13 : a0.tmps[13]? = some (.int .u32 (t.g))) : StepI Tryz.prog ops Q a0 tkDS I (GV (tkGS g1 c1 g2 c2 i t kv wv)) 15 { dst := some 64, op := .move (.tmp 13), type := ty, pos := pos, after := af, guard := none } := by
 intro a w hout hI hdep K hK
 rw [if_pos (by simp [Region.wanted])]
 have o13w := (hout 13 de_).trans o13
 clear hout hdep
 clear o13
 go_simp
 exact hK _ _ (gv_of rfl rs_) hI
theorem tk65 (h63 : (⟨14, .data⟩ : Edge) ∈ af.toList) (h64 : (⟨15, .data⟩ : Edge) ∈ af.toList) : StepI Tryz.prog ops Q a0 tkDS I (GV (tkGS g1 c1 g2 c2 i t kv wv)) 16 { dst := some 65, op := .binOp .and 121 (.tmp 63) (.tmp 64) 121, type := ty, pos := pos, after := af, guard := none } := by
 intro a w hout hI hdep K hK
 rw [if_pos (by simp [Region.wanted])]
 obtain ⟨v63, g63, e63⟩ := hdep ⟨14, .data⟩ h63 rfl
 have e63 := e63 63 rfl
 have g63 := g63 _ rfl
 subst g63
 obtain ⟨v64, g64, e64⟩ := hdep ⟨15, .data⟩ h64 rfl
 have e64 := e64 64 rfl
 have g64 := g64 _ rfl
 subst g64
 clear hout hdep
 go_simp
 exact hK _ _ (gv_of rfl rs_) hI
theorem tk66 (h61 : (⟨12, .data⟩ : Edge) ∈ af.toList) (h65 : (⟨16, .data⟩ : Edge) ∈ af.toList) : StepI Tryz.prog ops Q a0 tkDS I (GV (tkGS g1 c1 g2 c2 i t kv wv)) 17 { dst := some 66, op := .binOp .xor 121 (.tmp 61) (.tmp 65) 121, type := ty, pos := pos, after := af, guard := none } := by
 intro a w hout hI hdep K hK
 rw [if_pos (by simp [Region.wanted])]
 obtain ⟨v61, g61, e61⟩ := hdep ⟨12, .data⟩ h61 rfl
 have e61 := e61 61 rfl
 have g61 := g61 _ rfl
 subst g61
 obtain ⟨v65, g65, e65⟩ := hdep ⟨16, .data⟩ h65 rfl
 have e65 := e65 65 rfl
 have g65 := g65 _ rfl
 subst g65
 clear hout hdep
 go_simp
 exact hK _ _ (gv_of rfl rs_) hI
theorem tk67 (h58 : (⟨9, .data⟩ : Edge) ∈ af.toList) (h66 : (⟨17, .data⟩ : Edge) ∈ af.toList) : StepI Tryz.prog ops Q a0 tkDS I (GV (tkGS g1 c1 g2 c2 i t kv wv)) 18 { dst := some 67, op := .binOp .add 121 (.tmp 58) (.tmp 66) 121, type := ty, pos := pos, after := af, guard := none } := by
 intro a w hout hI hdep K hK
 rw [if_pos (by simp [Region.wanted])]
 obtain ⟨v58, g58, e58⟩ := hdep ⟨9, .data⟩ h58 rfl
 have e58 := e58 58 rfl
 have g58 := g58 _ rfl
 subst g58
 obtain ⟨v66, g66, e66⟩ := hdep ⟨17, .data⟩ h66 rfl
 have e66 := e66 66 rfl
 have g66 := g66 _ rfl
 subst g66
 clear hout hdep
 go_simp
 exact hK _ _ (gv_of rfl rs_) hI
theorem tk68 (o5 : a0.tmps[5]? = some (.slice (some ⟨g1, 0, none⟩) 64 c1)) : StepI Tryz.prog ops Q a0 tkDS I (GV (tkGS g1 c1 g2 c2 i t kv wv)) 19 { dst := some 68, op := .move (.tmp 5), type := ty, pos := pos, after := af, guard := none } := by
 intro a w hout hI hdep K hK
 rw [if_pos (by simp [Region.wanted])]
 have o5w := (hout 5 de_).trans o5
 clear hout hdep
 clear o5
 go_simp
 exact hK _ _ (gv_of rfl rs_) hI
theorem tk69 (o15 : a0.tmps[15]? = some (.int .i64 (i : Int))) : StepI Tryz.prog ops Q a0 tkDS I (GV (tkGS g1 c1 g2 c2 i t kv wv)) 20 { dst := some 69, op := .move (.tmp 15), type := ty, pos := pos, after := af, guard := none } := by
 intro a w hout hI hdep K hK
 rw [if_pos (by simp [Region.wanted])]
 have o15w := (hout 15 de_).trans o15
 clear hout hdep
 clear o15
 go_simp
 exact hK _ _ (gv_of rfl rs_) hI
theorem tk70 (h68 : (⟨19, .data⟩ : Edge) ∈ af.toList) (h69 : (⟨20, .data⟩ : Edge) ∈ af.toList) (hi : (0 : Int) ≤ (i : Int) ∧ (i : Int) < 64) : StepI Tryz.prog ops Q a0 tkDS I (GV (tkGS g1 c1 g2 c2 i t kv wv)) 21 { dst := some 70, op := .indexAddr 166 (.tmp 68) (.tmp 69), type := ty, pos := pos, after := af, guard := none } := by
 intro a w hout hI hdep K hK
 rw [if_pos (by simp [Region.wanted])]
 obtain ⟨v68, g68, e68⟩ := hdep ⟨19, .data⟩ h68 rfl
 have e68 := e68 68 rfl
 have g68 := g68 _ rfl
 subst g68
 obtain ⟨v69, g69, e69⟩ := hdep ⟨20, .data⟩ h69 rfl
 have e69 := e69 69 rfl
 have g69 := g69 _ rfl
 subst g69
 clear hout hdep
 go_simp
 exact hK _ _ (gv_of rfl rs_) hI
theorem tk71 (h70 : (⟨21, .data⟩ : Edge) ∈ af.toList) (hL : ∀ w, I w → w.cell? ⟨g1, i, none⟩ = some (.int .u32 (kv))) : StepI Tryz.prog ops Q a0 tkDS I (GV (tkGS g1 c1 g2 c2 i t kv wv)) 22 { dst := some 71, op := .load 121 (.tmp 70), type := ty, pos := pos, after := af, guard := none } := by
 intro a w hout hI hdep K hK
 rw [if_pos (by simp [Region.wanted])]
 obtain ⟨v70, g70, e70⟩ := hdep ⟨21, .data⟩ h70 rfl
 have e70 := e70 70 rfl
 have g70 := g70 _ rfl
 subst g70
 have hLw := hL w hI
 clear hout hdep
 go_simp
 exact hK _ _ (gv_of rfl rs_) hI
theorem tk72 (h67 : (⟨18, .data⟩ : Edge) ∈ af.toList) (h71 : (⟨22, .data⟩ : Edge) ∈ af.toList) : StepI Tryz.prog ops Q a0 tkDS I (GV (tkGS g1 c1 g2 c2 i t kv wv)) 23 { dst := some 72, op := .binOp .add 121 (.tmp 67) (.tmp 71) 121, type := ty, pos := pos, after := af, guard := none } := by
 intro a w hout hI hdep K hK
 rw [if_pos (by simp [Region.wanted])]
 obtain ⟨v67, g67, e67⟩ := hdep ⟨18, .data⟩ h67 rfl
 have e67 := e67 67 rfl
 have g67 := g67 _ rfl
 subst g67
 obtain ⟨v71, g71, e71⟩ := hdep ⟨22, .data⟩ h71 rfl
 have e71 := e71 71 rfl
 have g71 := g71 _ rfl
 subst g71
 clear hout hdep
 go_simp
 exact hK _ _ (gv_of rfl rs_) hI
theorem tk73 (o6 : a0.tmps[6]? = some (.slice (some ⟨g2, 0, none⟩) 64 c2)) : StepI Tryz.prog ops Q a0 tkDS I (GV (tkGS g1 c1 g2 c2 i t kv wv)) 24 { dst := some 73, op := .move (.tmp 6), type := ty, pos := pos, after := af, guard := none } := by
 intro a w hout hI hdep K hK
 rw [if_pos (by simp [Region.wanted])]
 have o6w := (hout 6 de_).trans o6
 clear hout hdep
 clear o6
 go_simp
 exact hK _ _ (gv_of rfl rs_) hI
theorem tk74 (o15 : a0.tmps[15]? = some (.int .i64 (i : Int))) : StepI Tryz.prog ops Q a0 tkDS I (GV (tkGS g1 c1 g2 c2 i t kv wv)) 25 { dst := some 74, op := .move (.tmp 15), type := ty, pos := pos, after := af, guard := none } := by
 intro a w hout hI hdep K hK
 rw [if_pos (by simp [Region.wanted])]
 have o15w := (hout 15 de_).trans o15
 clear hout hdep
 clear o15
 go_simp
 exact hK _ _ (gv_of rfl rs_) hI
theorem tk75 (h73 : (⟨24, .data⟩ : Edge) ∈ af.toList) (h74 : (⟨25, .data⟩ : Edge) ∈ af.toList) (hi : (0 : Int) ≤ (i : Int) ∧ (i : Int) < 64) : StepI Tryz.prog ops Q a0 tkDS I (GV (tkGS g1 c1 g2 c2 i t kv wv)) 26 { dst := some 75, op := .indexAddr 166 (.tmp 73) (.tmp 74), type := ty, pos := pos, after := af, guard := none } := by
 intro a w hout hI hdep K hK
 rw [if_pos (by simp [Region.wanted])]
 obtain ⟨v73, g73, e73⟩ := hdep ⟨24, .data⟩ h73 rfl
 have e73 := e73 73 rfl
 have g73 := g73 _ rfl
 subst g73
 obtain ⟨v74, g74, e74⟩ := hdep ⟨25, .data⟩ h74 rfl
 have e74 := e74 74 rfl
 have g74 := g74 _ rfl
 subst g74
 clear hout hdep
 go_simp
 exact hK _ _ (gv_of rfl rs_) hI
theorem tk76 (h75 : (⟨26, .data⟩ : Edge) ∈ af.toList) (hL : ∀ w, I w → w.cell? ⟨g2, i, none⟩ = some (.int .u32 (wv))) : StepI Tryz.prog ops Q a0 tkDS I (GV (tkGS g1 c1 g2 c2 i t kv wv)) 27 { dst := some 76, op := .load 121 (.tmp 75), type := ty, pos := pos, after := af, guard := none } := by
 intro a w hout hI hdep K hK
 rw [if_pos (by simp [Region.wanted])]
 obtain ⟨v75, g75, e75⟩ := hdep ⟨26, .data⟩ h75 rfl
 have e75 := e75 75 rfl
 have g75 := g75 _ rfl
 subst g75
 have hLw := hL w hI
 clear hout hdep
 go_simp
 exact hK _ _ (gv_of rfl rs_) hI
theorem tk77 (h72 : (⟨23, .data⟩ : Edge) ∈ af.toList) (h76 : (⟨27, .data⟩ : Edge) ∈ af.toList) : StepI Tryz.prog ops Q a0 tkDS I (GV (tkGS g1 c1 g2 c2 i t kv wv)) 28 { dst := some 77, op := .binOp .add 121 (.tmp 72) (.tmp 76) 121, type := ty, pos := pos, after := af, guard := none } := by
 intro a w hout hI hdep K hK
 rw [if_pos (by simp [Region.wanted])]
 obtain ⟨v72, g72, e72⟩ := hdep ⟨23, .data⟩ h72 rfl
 have e72 := e72 72 rfl
 have g72 := g72 _ rfl
 subst g72
 obtain ⟨v76, g76, e76⟩ := hdep ⟨27, .data⟩ h76 rfl
 have e76 := e76 76 rfl
 have g76 := g76 _ rfl
 subst g76
 clear hout hdep
 go_simp
 exact hK _ _ (gv_of rfl rs_) hI
theorem tk16 (h77 : (⟨28, .data⟩ : Edge) ∈ af.toList) : StepI Tryz.prog ops Q a0 tkDS I (GV (tkGS g1 c1 g2 c2 i t kv wv)) 29 { dst := some 16, op := .assign (.tmp 77), type := ty, pos := pos, after := af, guard := none } := by
 intro a w hout hI hdep K hK
 rw [if_pos (by simp [Region.wanted])]
 obtain ⟨v77, g77, e77⟩ := hdep ⟨28, .data⟩ h77 rfl
 have e77 := e77 77 rfl
 have g77 := g77 _ rfl
 subst g77
 clear hout hdep
 go_simp
 exact hK _ _ (gv_of rfl rs_) hI
end
theorem wordsB_len (l : List UInt8) (hl : l.length = 64) : (wordsB l).length = 64 := by unfold wordsB; rw [moreW_len, words16_len 16 l om_]
theorem rounds_step (l : List Int) (hl : l.length = 64) (s : S8) (i : Nat) (h : i < 64) : roundsS ((kTab.zip l).take (i + 1)) s = roundS (roundsS ((kTab.zip l).take i) s) (kTab.getD i 0) (l.getD i 0) := by
 have hk := kTab_len
 have h1 : i < (kTab.zip l).length := by rw [List.length_zip]; omega
 rw [List.take_succ_eq_append_getElem h1, List.getElem_zip, roundsS_snoc, List.getD_eq_getElem?_getD, List.getD_eq_getElem?_getD, List.getElem?_eq_getElem om_, List.getElem?_eq_getElem om_]
 rfl
theorem inW_at {v : Value} {l : List Int} {w : World} (h : InW v l w) : ∃ g c, v = .slice (some ⟨g, 0, none⟩) l.length c ∧ g < w.heap.size ∧ ∀ j, j < l.length → w.cell? ⟨g, j, none⟩ = some (.int .u32 (l.getD j 0)) := by
 obtain ⟨g, c, hv, _, hg, hc⟩ := h
 refine ⟨g, c, hv, hg, fun j hj => ?_⟩
 rw [hc j hj, List.getD_eq_getElem?_getD, List.getElem?_eq_getElem hj]
 rfl
theorem ref2Taken (s : S8) (l : List UInt8) (hl : l.length = 64) (lv bv : Value) (w : World) (hlv : InW lv (s8L s) w) (hin : InAt bv l w) :
  Calls Tryz.prog 132 #[lv, bv] w fun e w' => ∃ v, e = .returned v ∧ InW v (s8L (takeS s l)) w' ∧ Below w.heap.size w w' := by
 have HIN := Lib.hid hin
 have HLV := Lib.hid hlv
 obtain ⟨g0, c0, rfl, hg0, hc0⟩ := inW_at hlv
 have h8 : (s8L s).length = 8 := rfl
 rw [h8] at hc0 HLV
 rw [h8]
 clear hin hlv h8
 go_enter Tryz.func132, Tryz.ntmps132
 go_wp2_with fail
 refine (ref2Consts w).mono ?_
 rintro e w1 ⟨kvv, rfl, hk1, hb1⟩
 obtain ⟨g1, c1, rfl, hg1, hkc⟩ := inW_at hk1
 have HK1 := Lib.hid hk1
 rw [kTab_len] at hkc
 rw [kTab_len]
 have HL1 : Hid (GL [] w w1) := Lib.hid (gl_below hb1 (gl_refl _ _))
 go_wp2_with fail
 refine (ref2Words l hl bv w1 (inAt_gl HIN.out HL1.out)).mono ?_
 rintro e w2 ⟨wvv, rfl, hw2, hb2⟩
 have hwl := wordsB_len l hl
 obtain ⟨g2, c2, rfl, hg2, hwc⟩ := inW_at (ownW_in hw2 (fun e => by rw [e] at hwl; simp at hwl))
 rw [hwl] at hwc
 rw [hwl]
 have HL2 : Hid (GL [] w w2) := Lib.hid (gl_below hb2 HL1.out)
 have HG1 : Hid (g1 < w2.heap.size ∧ ∀ j, j < 64 → w2.cell? ⟨g1, j, none⟩ = some (.int .u32 (kTab.getD j 0))) := Lib.hid ⟨Nat.lt_of_lt_of_le hg1 hb2.size, fun j hj => cell_gl0 hg1 (hkc j hj) (gl_below hb2 (gl_refl _ _))⟩
 have HG2 : Hid (g2 < w2.heap.size ∧ ∀ j, j < 64 → w2.cell? ⟨g2, j, none⟩ = some (.int .u32 ((wordsB l).getD j 0))) := Lib.hid ⟨hg2, hwc⟩
 have HWL := Lib.hid hwl
 have HG0 : Hid (∀ j, j < 8 → w2.cell? ⟨g0, j, none⟩ = some (.int .u32 ((s8L s).getD j 0))) := Lib.hid (fun j hj => cell_gl0 hg0 (hc0 j hj) HL2.out)
 have f0 : w2.cell? ⟨g0, 0, none⟩ = some (.int .u32 s.a) := HG0.out 0 om_
 have f1 : w2.cell? ⟨g0, 1, none⟩ = some (.int .u32 s.b) := HG0.out 1 om_
 have f2 : w2.cell? ⟨g0, 2, none⟩ = some (.int .u32 s.c) := HG0.out 2 om_
 have f3 : w2.cell? ⟨g0, 3, none⟩ = some (.int .u32 s.d) := HG0.out 3 om_
 have f4 : w2.cell? ⟨g0, 4, none⟩ = some (.int .u32 s.e) := HG0.out 4 om_
 have f5 : w2.cell? ⟨g0, 5, none⟩ = some (.int .u32 s.f) := HG0.out 5 om_
 have f6 : w2.cell? ⟨g0, 6, none⟩ = some (.int .u32 s.g) := HG0.out 6 om_
 have f7 : w2.cell? ⟨g0, 7, none⟩ = some (.int .u32 s.h) := HG0.out 7 om_
 clear hk1 hb1 hb2 hw2 hwl hwc hkc hg1 hg2 hc0 HL1
 go_wp2_with fail
 go_still (by kernel_rfl)
 clear f0 f1 f2 f3 f4 f5 f6 f7
 rw [show ({ heap := w2.heap, tape := w2.tape, drawn := w2.drawn + 1, os := w2.os, output := w2.output } : World) = w2.drew from rfl]
 have HL3 : Hid (GL [] w w2.drew) := Lib.hid (gl_drew HL2.out)
 have HD3 : Hid (GL [] w2 w2.drew) := Lib.hid (gl_drew (gl_refl _ _))
 generalize w2.drew = w3 at *
 go_wp2_with fail
 go_loopw [7, 8, 9, 10, 11, 12, 13, 14, 15] (fun va vb vc vd ve vf vg vh iv wr => ∃ (i : Nat) (t : S8), i ≤ 64 ∧ va = .int .u32 t.a ∧ vb = .int .u32 t.b ∧ vc = .int .u32 t.c ∧ vd = .int .u32 t.d ∧ ve = .int .u32 t.e ∧ vf = .int .u32 t.f ∧ vg = .int .u32 t.g ∧ vh = .int .u32 t.h ∧ iv = .int .i64 (i : Int) ∧ Hid (t = roundsS ((kTab.zip (wordsB l)).take i) s) ∧ Hid (GL [] w wr) ∧ Hid (GL [] w2 wr)) (fun _ _ _ _ _ _ _ _ iv _ => 64 - (intOf iv).toNat)
 case atStart => exact ⟨0, s, by omega, rfl, rfl, rfl, rfl, rfl, rfl, rfl, rfl, rfl, Lib.hid rfl, HL3, HD3⟩
 case round =>
  obtain ⟨i, t, hi, rfl, rfl, rfl, rfl, rfl, rfl, rfl, rfl, rfl, HT, HL, HD⟩ := hrel
  by_cases hlt : i < 64
  · have HS := Lib.hid (rounds_step (wordsB l) HWL.out s i hlt)
    rw [← HT.out] at HS
    have hk := HG1.out.2 i hlt
    have hw := HG2.out.2 i hlt
    have hg1 := HG1.out.1
    have hg2 := HG2.out.1
    have i64 : (0 : Int) ≤ (i : Int) ∧ (i : Int) < 64 := by omega
    have hb5 : decide ((i : Int) < 64) = true := by simp; omega
    have hb6 : (i : Int) < 64 := by omega
    generalize kTab.getD i 0 = kv at *
    generalize (wordsB l).getD i 0 = wv at *
    have hR : ∀ (n : Nat) (N : Int), N = n → 1 ≤ n → n ≤ 31 → ∀ (x : Int) (W : World), GL [] w2 W → Calls Tryz.prog 163 #[.int .u32 x, .int .i64 N] W fun e w' => e = .returned (.int .u32 (rotr n x)) ∧ GL [] w2 w' := fun n N hN h1 h2 x W hg => (ref2Turn n N hN h1 h2 x W).mono (fun e w' hh => ⟨hh.1, by rw [hh.2]; exact gl_drew hg⟩)
    go_upto_region 6 with fail
    refine wp_region_I (ds := tkDS) (I := (fun W => GL [] w2 W)) (G := GV (tkGS g1 c1 g2 c2 i t kv wv)) rfl rfl (distinct_of _ (by decide +kernel)) ?_ (by kernel_rfl) (gl_drew HD.out) ?_ ?_
    · intro d hd
      exact Nat.lt_of_lt_of_le (ltB_of (n := 151) tkDS (by decide +kernel) d hd) si_
    · exact ⟨tk49 si_, tk50 si_, tk51 si_ (hR 6 6 rfl de_ de_ t.e), tk52 si_, tk53 si_ (hR 11 11 rfl de_ de_ t.e), tk54 si_ si_, tk55 si_, tk56 si_ (hR 25 25 rfl de_ de_ t.e), tk57 si_ si_, tk58 si_ si_, tk59 si_, tk60 si_, tk61 si_ si_, tk62 si_, tk63 si_, tk64 si_, tk65 si_ si_, tk66 si_ si_, tk67 si_ si_, tk68 si_, tk69 si_, tk70 si_ si_ i64, tk71 si_ (fun W h => cell_gl0 hg1 hk h), tk72 si_ si_, tk73 si_, tk74 si_, tk75 si_ si_ i64, tk76 si_ (fun W h => cell_gl0 hg2 hw h), tk77 si_ si_, tk16 si_, trivial⟩
    · intro vs w' hl hv hI
      have hl0 : vs.length = 30 := hl
      clear hl
      obtain ⟨x0, r0, rfl, hl1⟩ := cons_of hl0
      clear hl0
      obtain ⟨x1, r1, rfl, hl2⟩ := cons_of hl1
      clear hl1
      obtain ⟨x2, r2, rfl, hl3⟩ := cons_of hl2
      clear hl2
      obtain ⟨x3, r3, rfl, hl4⟩ := cons_of hl3
      clear hl3
      obtain ⟨x4, r4, rfl, hl5⟩ := cons_of hl4
      clear hl4
      obtain ⟨x5, r5, rfl, hl6⟩ := cons_of hl5
      clear hl5
      obtain ⟨x6, r6, rfl, hl7⟩ := cons_of hl6
      clear hl6
      obtain ⟨x7, r7, rfl, hl8⟩ := cons_of hl7
      clear hl7
      obtain ⟨x8, r8, rfl, hl9⟩ := cons_of hl8
      clear hl8
      obtain ⟨x9, r9, rfl, hl10⟩ := cons_of hl9
      clear hl9
      obtain ⟨x10, r10, rfl, hl11⟩ := cons_of hl10
      clear hl10
      obtain ⟨x11, r11, rfl, hl12⟩ := cons_of hl11
      clear hl11
      obtain ⟨x12, r12, rfl, hl13⟩ := cons_of hl12
      clear hl12
      obtain ⟨x13, r13, rfl, hl14⟩ := cons_of hl13
      clear hl13
      obtain ⟨x14, r14, rfl, hl15⟩ := cons_of hl14
      clear hl14
      obtain ⟨x15, r15, rfl, hl16⟩ := cons_of hl15
      clear hl15
      obtain ⟨x16, r16, rfl, hl17⟩ := cons_of hl16
      clear hl16
      obtain ⟨x17, r17, rfl, hl18⟩ := cons_of hl17
      clear hl17
      obtain ⟨x18, r18, rfl, hl19⟩ := cons_of hl18
      clear hl18
      obtain ⟨x19, r19, rfl, hl20⟩ := cons_of hl19
      clear hl19
      obtain ⟨x20, r20, rfl, hl21⟩ := cons_of hl20
      clear hl20
      obtain ⟨x21, r21, rfl, hl22⟩ := cons_of hl21
      clear hl21
      obtain ⟨x22, r22, rfl, hl23⟩ := cons_of hl22
      clear hl22
      obtain ⟨x23, r23, rfl, hl24⟩ := cons_of hl23
      clear hl23
      obtain ⟨x24, r24, rfl, hl25⟩ := cons_of hl24
      clear hl24
      obtain ⟨x25, r25, rfl, hl26⟩ := cons_of hl25
      clear hl25
      obtain ⟨x26, r26, rfl, hl27⟩ := cons_of hl26
      clear hl26
      obtain ⟨x27, r27, rfl, hl28⟩ := cons_of hl27
      clear hl27
      obtain ⟨x28, r28, rfl, hl29⟩ := cons_of hl28
      clear hl28
      obtain ⟨x29, r29, rfl, hl30⟩ := cons_of hl29
      clear hl29
      have e29 : x29 = .int .u32 (rX t kv wv) := hv 29 x29 si_ _ rfl
      subst e29
      obtain rfl : r29 = [] := List.eq_nil_of_length_eq_zero hl30
      clear hv
      simp only [tkDS, setAll, List.setIfInBounds_toArray, List.set_cons_zero, List.set_cons_succ]
      have HL4 : Hid (GL [] w w') := Lib.hid (gl_step hI HL2.out si_)
      have HD4 := Lib.hid hI
      clear hI HL HD
      generalize hrx : rX t kv wv = rx at *
      go_wp2_with fail
      refine (ref2Turn 2 2 rfl om_ om_ t.a _).mono ?_
      rintro e v0 ⟨rfl, rfl⟩
      go_wp2_with fail
      refine (ref2Turn 13 13 rfl om_ om_ t.a _).mono ?_
      rintro e v1 ⟨rfl, rfl⟩
      go_wp2_with fail
      refine (ref2Turn 22 22 rfl om_ om_ t.a _).mono ?_
      rintro e v2 ⟨rfl, rfl⟩
      go_wp2_with fail
      have HS2 : Hid (roundsS (List.take (i + 1) (kTab.zip (wordsB l))) s = ⟨IntKind.u32.wrap (rx + IntKind.u32.wrap (bits .xor .u32 (bits .xor .u32 (rotr 2 t.a) (rotr 13 t.a)) (rotr 22 t.a) + bits .xor .u32 (bits .xor .u32 (bits .and .u32 t.a t.b) (bits .and .u32 t.a t.c)) (bits .and .u32 t.b t.c))), t.a, t.b, t.c, IntKind.u32.wrap (t.d + rx), t.e, t.f, t.g⟩) := Lib.hid (by rw [HS.out, ← hrx]; rfl)
      exact ⟨⟨i + 1, ⟨IntKind.u32.wrap (rx + IntKind.u32.wrap (bits .xor .u32 (bits .xor .u32 (rotr 2 t.a) (rotr 13 t.a)) (rotr 22 t.a) + bits .xor .u32 (bits .xor .u32 (bits .and .u32 t.a t.b) (bits .and .u32 t.a t.c)) (bits .and .u32 t.b t.c))), t.a, t.b, t.c, IntKind.u32.wrap (t.d + rx), t.e, t.f, t.g⟩, by omega, rfl, rfl, rfl, rfl, rfl, rfl, rfl, rfl, by go_num, Lib.hid HS2.out.symm, Lib.hid (gl_drew (gl_drew (gl_drew HL4.out))), Lib.hid (gl_drew (gl_drew (gl_drew HD4.out)))⟩, by simp [intOf]; omega⟩
  · obtain rfl : i = 64 := by omega
    clear hlt
    have HG3 : Hid (∀ j, j < 8 → wr.cell? ⟨g0, j, none⟩ = some (.int .u32 ((s8L s).getD j 0))) := Lib.hid (fun j hj => cell_gl0 (Nat.lt_of_lt_of_le hg0 HL2.out.size) (HG0.out j hj) HD.out)
    have f0 : wr.cell? ⟨g0, 0, none⟩ = some (.int .u32 s.a) := HG3.out 0 om_
    have f1 : wr.cell? ⟨g0, 1, none⟩ = some (.int .u32 s.b) := HG3.out 1 om_
    have f2 : wr.cell? ⟨g0, 2, none⟩ = some (.int .u32 s.c) := HG3.out 2 om_
    have f3 : wr.cell? ⟨g0, 3, none⟩ = some (.int .u32 s.d) := HG3.out 3 om_
    have f4 : wr.cell? ⟨g0, 4, none⟩ = some (.int .u32 s.e) := HG3.out 4 om_
    have f5 : wr.cell? ⟨g0, 5, none⟩ = some (.int .u32 s.f) := HG3.out 5 om_
    have f6 : wr.cell? ⟨g0, 6, none⟩ = some (.int .u32 s.g) := HG3.out 6 om_
    have f7 : wr.cell? ⟨g0, 7, none⟩ = some (.int .u32 s.h) := HG3.out 7 om_
    go_wp2_with fail
    go_still_tail 40, (by kernel_rfl)
    clear f0 f1 f2 f3 f4 f5 f6 f7
    rw [show ({ heap := wr.heap, tape := wr.tape, drawn := wr.drawn + 1, os := wr.os, output := wr.output } : World) = wr.drew from rfl]
    have HL4 : Hid (GL [] w wr.drew) := Lib.hid (gl_drew HL.out)
    generalize wr.drew = w4 at *
    have HTT : Hid (t = roundsS (kTab.zip (wordsB l)) s) := Lib.hid (by rw [HT.out, List.take_of_length_le (by rw [List.length_zip, kTab_len, HWL.out]; decide)])
    go_wp2_with fail
    refine bodyPost_ret (v := .slice (some ⟨w4.heap.size, 0, none⟩) 8 8) (by simp [results, Tryz.results132, go_sem]) rfl ⟨_, rfl, ?_, gl_to_below (gl_alloc HL4.out _)⟩
    have he : takeS s l = ⟨Go.Proofs.YtembdkodajichaaGreatDoor.u32 (s.a + t.a), Go.Proofs.YtembdkodajichaaGreatDoor.u32 (s.b + t.b), Go.Proofs.YtembdkodajichaaGreatDoor.u32 (s.c + t.c), Go.Proofs.YtembdkodajichaaGreatDoor.u32 (s.d + t.d), Go.Proofs.YtembdkodajichaaGreatDoor.u32 (s.e + t.e), Go.Proofs.YtembdkodajichaaGreatDoor.u32 (s.f + t.f), Go.Proofs.YtembdkodajichaaGreatDoor.u32 (s.g + t.g), Go.Proofs.YtembdkodajichaaGreatDoor.u32 (s.h + t.h)⟩ := by unfold takeS; rw [← HTT.out]; rfl
    refine inW_blk (l := s8L (takeS s l)) (T := 121) ?_ (Nat.le_refl _)
    rw [he]
    simp only [wL, s8L, Go.Proofs.YtembdkodajichaaGreatDoor.u32, u32_mod, List.map_cons, List.map_nil]
    exact blk_new w4 _
theorem outB_get (s : S8) (i : Nat) (h : i < 32) : (outB s).getD i 0 = UInt8.ofNat ((s8L s).getD (i / 4) 0 / 2 ^ (24 - 8 * (i % 4))).toNat := by
 rcases (by omega : i = 0 ∨ i = 1 ∨ i = 2 ∨ i = 3 ∨ i = 4 ∨ i = 5 ∨ i = 6 ∨ i = 7 ∨ i = 8 ∨ i = 9 ∨ i = 10 ∨ i = 11 ∨ i = 12 ∨ i = 13 ∨ i = 14 ∨ i = 15 ∨ i = 16 ∨ i = 17 ∨ i = 18 ∨ i = 19 ∨ i = 20 ∨ i = 21 ∨ i = 22 ∨ i = 23 ∨ i = 24 ∨ i = 25 ∨ i = 26 ∨ i = 27 ∨ i = 28 ∨ i = 29 ∨ i = 30 ∨ i = 31) with rfl | rfl | rfl | rfl | rfl | rfl | rfl | rfl | rfl | rfl | rfl | rfl | rfl | rfl | rfl | rfl | rfl | rfl | rfl | rfl | rfl | rfl | rfl | rfl | rfl | rfl | rfl | rfl | rfl | rfl | rfl | rfl <;> simp [outB, s8L]
theorem outB_val (s : S8) (h : 0 ≤ s.a ∧ 0 ≤ s.b ∧ 0 ≤ s.c ∧ 0 ≤ s.d ∧ 0 ≤ s.e ∧ 0 ≤ s.f ∧ 0 ≤ s.g ∧ 0 ≤ s.h) (i : Nat) (hi : i < 32) : (((outB s).getD i 0).toNat : Int) = (s8L s).getD (i / 4) 0 / 2 ^ (24 - 8 * (i % 4)) % 256 := by
 rw [outB_get s i hi]
 refine byte_of _ ?_ _
 rcases (by omega : i / 4 = 0 ∨ i / 4 = 1 ∨ i / 4 = 2 ∨ i / 4 = 3 ∨ i / 4 = 4 ∨ i / 4 = 5 ∨ i / 4 = 6 ∨ i / 4 = 7) with e | e | e | e | e | e | e | e <;> rw [e] <;> simp [s8L] <;> omega
theorem first_s8L : wL (s8L firstS) = [.int .u32 1779033703, .int .u32 3144134277, .int .u32 1013904242, .int .u32 2773480762, .int .u32 1359893119, .int .u32 2600822924, .int .u32 528734635, .int .u32 1541459225] := rfl
theorem ref2Sum (l : List UInt8) (hl : l.length ≤ 100000000) (bv : Value) (w : World) (hin : InAt bv l w) :
  Calls Tryz.prog 79 #[bv] w fun e w' => e = .returned (.agg (u8L (outB (sumS l))).toArray) ∧ Below w.heap.size w w' := by
 have HIN := Lib.hid hin
 obtain ⟨ba, bc, hbv, _, _⟩ := inAt_form hin
 subst hbv
 clear hin
 go_enter Tryz.func79, Tryz.ntmps79
 go_wp2_with fail
 have HR1 : Hid (((w.alloc (.cells #[.int .u8 0, .int .u8 0, .int .u8 0, .int .u8 0, .int .u8 0, .int .u8 0, .int .u8 0, .int .u8 0, .int .u8 0, .int .u8 0, .int .u8 0, .int .u8 0, .int .u8 0, .int .u8 0, .int .u8 0, .int .u8 0, .int .u8 0, .int .u8 0, .int .u8 0, .int .u8 0, .int .u8 0, .int .u8 0, .int .u8 0, .int .u8 0, .int .u8 0, .int .u8 0, .int .u8 0, .int .u8 0, .int .u8 0, .int .u8 0, .int .u8 0, .int .u8 0] 104)).alloc (.cells #[.int .u32 1779033703, .int .u32 3144134277, .int .u32 1013904242, .int .u32 2773480762, .int .u32 1359893119, .int .u32 2600822924, .int .u32 528734635, .int .u32 1541459225] 121)).heap[w.heap.size]? = some (.cells #[.int .u8 0, .int .u8 0, .int .u8 0, .int .u8 0, .int .u8 0, .int .u8 0, .int .u8 0, .int .u8 0, .int .u8 0, .int .u8 0, .int .u8 0, .int .u8 0, .int .u8 0, .int .u8 0, .int .u8 0, .int .u8 0, .int .u8 0, .int .u8 0, .int .u8 0, .int .u8 0, .int .u8 0, .int .u8 0, .int .u8 0, .int .u8 0, .int .u8 0, .int .u8 0, .int .u8 0, .int .u8 0, .int .u8 0, .int .u8 0, .int .u8 0, .int .u8 0] 104 (0, 0))) := Lib.hid (blk_alloc (blk_new w _) _)
 have HI1 : Hid (InW (.slice (some ⟨w.heap.size + 1, 0, none⟩) 8 8) (s8L firstS) ((w.alloc (.cells #[.int .u8 0, .int .u8 0, .int .u8 0, .int .u8 0, .int .u8 0, .int .u8 0, .int .u8 0, .int .u8 0, .int .u8 0, .int .u8 0, .int .u8 0, .int .u8 0, .int .u8 0, .int .u8 0, .int .u8 0, .int .u8 0, .int .u8 0, .int .u8 0, .int .u8 0, .int .u8 0, .int .u8 0, .int .u8 0, .int .u8 0, .int .u8 0, .int .u8 0, .int .u8 0, .int .u8 0, .int .u8 0, .int .u8 0, .int .u8 0, .int .u8 0, .int .u8 0] 104)).alloc (.cells #[.int .u32 1779033703, .int .u32 3144134277, .int .u32 1013904242, .int .u32 2773480762, .int .u32 1359893119, .int .u32 2600822924, .int .u32 528734635, .int .u32 1541459225] 121))) := Lib.hid (by
  have hb8 := blk_new (w.alloc (.cells #[.int .u8 0, .int .u8 0, .int .u8 0, .int .u8 0, .int .u8 0, .int .u8 0, .int .u8 0, .int .u8 0, .int .u8 0, .int .u8 0, .int .u8 0, .int .u8 0, .int .u8 0, .int .u8 0, .int .u8 0, .int .u8 0, .int .u8 0, .int .u8 0, .int .u8 0, .int .u8 0, .int .u8 0, .int .u8 0, .int .u8 0, .int .u8 0, .int .u8 0, .int .u8 0, .int .u8 0, .int .u8 0, .int .u8 0, .int .u8 0, .int .u8 0, .int .u8 0] 104)) (.cells (wL (s8L firstS)).toArray 121)
  rw [World.size_alloc] at hb8
  exact inW_blk (l := s8L firstS) hb8 (Nat.le_refl _))
 have HL1 : Hid (GL [] w ((w.alloc (.cells #[.int .u8 0, .int .u8 0, .int .u8 0, .int .u8 0, .int .u8 0, .int .u8 0, .int .u8 0, .int .u8 0, .int .u8 0, .int .u8 0, .int .u8 0, .int .u8 0, .int .u8 0, .int .u8 0, .int .u8 0, .int .u8 0, .int .u8 0, .int .u8 0, .int .u8 0, .int .u8 0, .int .u8 0, .int .u8 0, .int .u8 0, .int .u8 0, .int .u8 0, .int .u8 0, .int .u8 0, .int .u8 0, .int .u8 0, .int .u8 0, .int .u8 0, .int .u8 0] 104)).alloc (.cells #[.int .u32 1779033703, .int .u32 3144134277, .int .u32 1013904242, .int .u32 2773480762, .int .u32 1359893119, .int .u32 2600822924, .int .u32 528734635, .int .u32 1541459225] 121))) := Lib.hid (gl_alloc (gl_alloc (gl_refl _ _) _) _)
 generalize (w.alloc (.cells #[.int .u8 0, .int .u8 0, .int .u8 0, .int .u8 0, .int .u8 0, .int .u8 0, .int .u8 0, .int .u8 0, .int .u8 0, .int .u8 0, .int .u8 0, .int .u8 0, .int .u8 0, .int .u8 0, .int .u8 0, .int .u8 0, .int .u8 0, .int .u8 0, .int .u8 0, .int .u8 0, .int .u8 0, .int .u8 0, .int .u8 0, .int .u8 0, .int .u8 0, .int .u8 0, .int .u8 0, .int .u8 0, .int .u8 0, .int .u8 0, .int .u8 0, .int .u8 0] 104)).alloc (.cells #[.int .u32 1779033703, .int .u32 3144134277, .int .u32 1013904242, .int .u32 2773480762, .int .u32 1359893119, .int .u32 2600822924, .int .u32 528734635, .int .u32 1541459225] 121) = w1 at *
 refine (ref2Filled l hl _ w1 (inAt_gl HIN.out HL1.out)).mono ?_
 rintro e w2 ⟨fv, rfl, hfo, hb⟩
 have HR2 := Lib.hid (blk_below HR1.out hb (blk_lt HR1.out))
 have HI2 := Lib.hid (inW_gl HI1.out (gl_below hb (gl_refl _ _)))
 have HL2 : Hid (GL [] w w2) := Lib.hid (gl_below hb HL1.out)
 obtain ⟨fa, fc, hfv⟩ := ownB_form hfo
 subst hfv
 have HFI := Lib.hid (ownB_in hfo).1
 have hfl := filled_len l
 have hfl2 : (filledB l).length ≤ 200000000 := by simp [filledB, zerosN, sizeB]; omega
 obtain ⟨N, hN⟩ : ∃ N, (filledB l).length = 64 * N := ⟨(filledB l).length / 64, by omega⟩
 have hfp : 0 < (filledB l).length := by simp [filledB]; omega
 have HS : Hid (sumS l = soak N firstS (filledB l)) := Lib.hid (by unfold sumS; rw [hN, Nat.mul_div_cancel_left _ om_])
 generalize filledB l = F at *
 have hF0 : 0 < F.length := by
  rcases Nat.eq_zero_or_pos F.length with h0 | h0
  · rw [h0] at hfp; omega
  · exact h0
 have hfc : F.length ≤ fc := by
  obtain ⟨a', c', hfe, hfc, _⟩ := inAt_form HFI.out
  injection hfe with e1 e2 e3
  omega
 have HN := Lib.hid hN
 clear hfo hb HIN HR1 HI1 HL1 hfl hN hfp
 go_wp2_with fail
 go_loopw [3, 5] (fun v iv wr => ∃ n i : Nat, n ≤ N ∧ i = 64 * n ∧ iv = .int .i64 (i : Int) ∧ Hid (InW v (s8L (soak n firstS F)) wr) ∧ Hid (GL [] w wr) ∧ Hid (GL [] w2 wr)) (fun _ iv _ => F.length - (intOf iv).toNat)
 case atStart => exact ⟨0, 0, by omega, rfl, rfl, HI2, HL2, Lib.hid (gl_refl _ _)⟩
 case round =>
  obtain ⟨n, i, hn, hi, rfl, HI, HL, HD⟩ := hrel
  have HIE := Lib.hid hi
  by_cases hlt : n < N
  · have hi0 : (0 : Int) ≤ i := by omega
    have hNN := HN.out
    have hi1 : decide ((i : Int) < F.length) = true := by simp; omega
    have hi2 : (i : Int) < F.length := by omega
    have hi3 : i + 64 ≤ F.length := by omega
    have hi4 : i + 64 ≤ fc := by omega
    have hi5 : (0 : Int) ≤ (i : Int) + 64 ∧ (i : Int) + 64 ≤ fc := by omega
    have hi6 : (0 : Int) ≤ (i : Int) ∧ (i : Int) ≤ (i : Int) + 64 := by omega
    have hne : ¬ (fc = i) := by omega
    have q1 : IntKind.i64.wrap ((i : Int) + 64) = (i : Int) + 64 := IntWalk.i64_in _ om_
    have t1 : ((i : Int) + 64).toNat = i + 64 := by omega
    have hIA := inAt_take (inAt_drop (inAt_gl HFI.out HD.out) (n := i) om_) (n := 64) (c2 := fc - i) (by rw [List.length_drop]; omega) om_
    rw [if_neg hne] at hIA
    have HIA := Lib.hid hIA
    have HTK := Lib.hid (ref2Taken (soak n firstS F) ((F.drop i).take 64) (by rw [List.length_take, List.length_drop]; omega) _ _ wr HI.out hIA)
    have HSK : Hid (soak (n + 1) firstS F = takeS (soak n firstS F) ((F.drop i).take 64)) := Lib.hid (by rw [soak_succ, hi])
    clear hi hIA hNN
    go_wp2_with fail
    refine HTK.out.mono ?_
    rintro e w3 ⟨lv3, rfl, hin3, hb3⟩
    have HI3 : Hid (InW lv3 (s8L (soak (n + 1) firstS F)) w3) := Lib.hid (by rw [HSK.out]; exact hin3)
    have HL3 : Hid (GL [] w w3) := Lib.hid (gl_below hb3 HL.out)
    have HD3 : Hid (GL [] w2 w3) := Lib.hid (gl_below hb3 HD.out)
    clear hin3 hb3 HTK
    go_wp2_with fail
    exact ⟨⟨n + 1, i + 64, by omega, by have := HIE.out; omega, by go_num, HI3, HL3, HD3⟩, by simp [intOf]; omega⟩
  · obtain rfl : n = N := by omega
    have hNN := HN.out
    obtain rfl : i = F.length := by omega
    clear hlt hi hNN
    rw [← HS.out] at HI
    have HR3 := Lib.hid (blk_gl HR2.out HD.out si_)
    obtain ⟨lg, lc, hlv, hlg, hlc⟩ := inW_at HI.out
    have h8 : (s8L (sumS l)).length = 8 := rfl
    rw [h8] at hlv hlc
    have HLC := Lib.hid hlc
    subst hlv
    have HNNG := Lib.hid (sumS_nn l)
    generalize hsm : sumS l = sm at *
    have HSM := Lib.hid hsm
    clear hsm
    clear hlc HI HS HIE HFI h8
    go_wp2_with fail
    have HO4 : Hid ((wr.alloc (.cells #[.int .u8 0, .int .u8 0, .int .u8 0, .int .u8 0, .int .u8 0, .int .u8 0, .int .u8 0, .int .u8 0, .int .u8 0, .int .u8 0, .int .u8 0, .int .u8 0, .int .u8 0, .int .u8 0, .int .u8 0, .int .u8 0, .int .u8 0, .int .u8 0, .int .u8 0, .int .u8 0, .int .u8 0, .int .u8 0, .int .u8 0, .int .u8 0, .int .u8 0, .int .u8 0, .int .u8 0, .int .u8 0, .int .u8 0, .int .u8 0, .int .u8 0, .int .u8 0] 104)).heap[wr.heap.size]? = some (.cells (outC sm 0) 104 (0, 0))) := Lib.hid (blk_new wr _)
    have HR4 := Lib.hid (blk_alloc HR3.out (.cells #[.int .u8 0, .int .u8 0, .int .u8 0, .int .u8 0, .int .u8 0, .int .u8 0, .int .u8 0, .int .u8 0, .int .u8 0, .int .u8 0, .int .u8 0, .int .u8 0, .int .u8 0, .int .u8 0, .int .u8 0, .int .u8 0, .int .u8 0, .int .u8 0, .int .u8 0, .int .u8 0, .int .u8 0, .int .u8 0, .int .u8 0, .int .u8 0, .int .u8 0, .int .u8 0, .int .u8 0, .int .u8 0, .int .u8 0, .int .u8 0, .int .u8 0, .int .u8 0] 104))
    have HL4 : Hid (GL [] w (wr.alloc (.cells #[.int .u8 0, .int .u8 0, .int .u8 0, .int .u8 0, .int .u8 0, .int .u8 0, .int .u8 0, .int .u8 0, .int .u8 0, .int .u8 0, .int .u8 0, .int .u8 0, .int .u8 0, .int .u8 0, .int .u8 0, .int .u8 0, .int .u8 0, .int .u8 0, .int .u8 0, .int .u8 0, .int .u8 0, .int .u8 0, .int .u8 0, .int .u8 0, .int .u8 0, .int .u8 0, .int .u8 0, .int .u8 0, .int .u8 0, .int .u8 0, .int .u8 0, .int .u8 0] 104))) := Lib.hid (gl_alloc HL.out _)
    have HC4 : Hid (∀ j, j < 8 → (wr.alloc (.cells #[.int .u8 0, .int .u8 0, .int .u8 0, .int .u8 0, .int .u8 0, .int .u8 0, .int .u8 0, .int .u8 0, .int .u8 0, .int .u8 0, .int .u8 0, .int .u8 0, .int .u8 0, .int .u8 0, .int .u8 0, .int .u8 0, .int .u8 0, .int .u8 0, .int .u8 0, .int .u8 0, .int .u8 0, .int .u8 0, .int .u8 0, .int .u8 0, .int .u8 0, .int .u8 0, .int .u8 0, .int .u8 0, .int .u8 0, .int .u8 0, .int .u8 0, .int .u8 0] 104)).cell? ⟨lg, j, none⟩ = some (.int .u32 ((s8L sm).getD j 0))) := Lib.hid (fun j hj => cell_gl0 hlg (HLC.out j hj) (gl_alloc (gl_refl _ _) _))
    have hOl : lg < wr.heap.size := hlg
    have hOw : w.heap.size < wr.heap.size := blk_lt HR3.out
    have hl4 : lg < (wr.alloc (.cells #[.int .u8 0, .int .u8 0, .int .u8 0, .int .u8 0, .int .u8 0, .int .u8 0, .int .u8 0, .int .u8 0, .int .u8 0, .int .u8 0, .int .u8 0, .int .u8 0, .int .u8 0, .int .u8 0, .int .u8 0, .int .u8 0, .int .u8 0, .int .u8 0, .int .u8 0, .int .u8 0, .int .u8 0, .int .u8 0, .int .u8 0, .int .u8 0, .int .u8 0, .int .u8 0, .int .u8 0, .int .u8 0, .int .u8 0, .int .u8 0, .int .u8 0, .int .u8 0] 104)).heap.size := by simp; omega
    clear HR3 HL HD HLC hlg
    generalize wr.alloc (.cells #[.int .u8 0, .int .u8 0, .int .u8 0, .int .u8 0, .int .u8 0, .int .u8 0, .int .u8 0, .int .u8 0, .int .u8 0, .int .u8 0, .int .u8 0, .int .u8 0, .int .u8 0, .int .u8 0, .int .u8 0, .int .u8 0, .int .u8 0, .int .u8 0, .int .u8 0, .int .u8 0, .int .u8 0, .int .u8 0, .int .u8 0, .int .u8 0, .int .u8 0, .int .u8 0, .int .u8 0, .int .u8 0, .int .u8 0, .int .u8 0, .int .u8 0, .int .u8 0] 104) = w4 at *
    generalize wr.heap.size = O at *
    go_loopw [7] (fun iv wr => ∃ i : Nat, i ≤ 32 ∧ iv = .int .i64 i ∧ Hid (wr.heap[O]? = some (.cells (outC sm i) 104 (0, 0))) ∧ Hid (GL [O] w4 wr)) (fun iv _ => 32 - (intOf iv).toNat)
    case atStart => exact ⟨0, by omega, rfl, HO4, Lib.hid (gl_refl _ _)⟩
    case round =>
     obtain ⟨i, hi, rfl, HZr, HGr⟩ := hrel
     by_cases hlt : i < 32
     · have HCr : Hid (∀ j, j < 8 → wr.cell? ⟨lg, j, none⟩ = some (.int .u32 ((s8L sm).getD j 0))) := Lib.hid (fun j hj => by
        have := HC4.out j hj
        simp only [World.cell?, HGr.out.block _ hl4 so_] at this ⊢
        exact this)
       have f0 : wr.cell? ⟨lg, 0, none⟩ = some (.int .u32 sm.a) := HCr.out 0 om_
       have f1 : wr.cell? ⟨lg, 1, none⟩ = some (.int .u32 sm.b) := HCr.out 1 om_
       have f2 : wr.cell? ⟨lg, 2, none⟩ = some (.int .u32 sm.c) := HCr.out 2 om_
       have f3 : wr.cell? ⟨lg, 3, none⟩ = some (.int .u32 sm.d) := HCr.out 3 om_
       have f4 : wr.cell? ⟨lg, 4, none⟩ = some (.int .u32 sm.e) := HCr.out 4 om_
       have f5 : wr.cell? ⟨lg, 5, none⟩ = some (.int .u32 sm.f) := HCr.out 5 om_
       have f6 : wr.cell? ⟨lg, 6, none⟩ = some (.int .u32 sm.g) := HCr.out 6 om_
       have f7 : wr.cell? ⟨lg, 7, none⟩ = some (.int .u32 sm.h) := HCr.out 7 om_
       have fz := blk_free HZr.out
       have fl := blk_lt HZr.out
       have fcc : ∀ j, j < 32 → ∃ v, wr.cell? ⟨O, j, none⟩ = some v := fun j hj => by
        rw [blk_cell HZr.out]
        exact ⟨_, Array.getElem?_eq_getElem (by rw [outC_size sm i hi]; exact hj)⟩
       obtain ⟨vv, fc⟩ := fcc i hlt
       clear fcc
       rcases (by omega : i = 0 ∨ i = 1 ∨ i = 2 ∨ i = 3 ∨ i = 4 ∨ i = 5 ∨ i = 6 ∨ i = 7 ∨ i = 8 ∨ i = 9 ∨ i = 10 ∨ i = 11 ∨ i = 12 ∨ i = 13 ∨ i = 14 ∨ i = 15 ∨ i = 16 ∨ i = 17 ∨ i = 18 ∨ i = 19 ∨ i = 20 ∨ i = 21 ∨ i = 22 ∨ i = 23 ∨ i = 24 ∨ i = 25 ∨ i = 26 ∨ i = 27 ∨ i = 28 ∨ i = 29 ∨ i = 30 ∨ i = 31) with rfl | rfl | rfl | rfl | rfl | rfl | rfl | rfl | rfl | rfl | rfl | rfl | rfl | rfl | rfl | rfl | rfl | rfl | rfl | rfl | rfl | rfl | rfl | rfl | rfl | rfl | rfl | rfl | rfl | rfl | rfl | rfl
       · go_wp2
         go_roundw
         case rel =>
          refine ⟨1, by omega, by go_num, Lib.hid ((blk_set HZr.out 0 _).trans ?_), Lib.hid (gl_set HGr.out (.inl si_) _)⟩
          exact congrArg (fun z => some (Obj.cells z 104 (0, 0))) (outC_set sm 0 om_ _ (by rw [outB_val sm HNNG.out 0 om_]; first | rfl | simp [s8L]))
         case measure => first | (simp [intOf]; done) | (simp [intOf]; omega)
       · go_wp2
         go_roundw
         case rel =>
          refine ⟨2, by omega, by go_num, Lib.hid ((blk_set HZr.out 1 _).trans ?_), Lib.hid (gl_set HGr.out (.inl si_) _)⟩
          exact congrArg (fun z => some (Obj.cells z 104 (0, 0))) (outC_set sm 1 om_ _ (by rw [outB_val sm HNNG.out 1 om_]; first | rfl | simp [s8L]))
         case measure => first | (simp [intOf]; done) | (simp [intOf]; omega)
       · go_wp2
         go_roundw
         case rel =>
          refine ⟨3, by omega, by go_num, Lib.hid ((blk_set HZr.out 2 _).trans ?_), Lib.hid (gl_set HGr.out (.inl si_) _)⟩
          exact congrArg (fun z => some (Obj.cells z 104 (0, 0))) (outC_set sm 2 om_ _ (by rw [outB_val sm HNNG.out 2 om_]; first | rfl | simp [s8L]))
         case measure => first | (simp [intOf]; done) | (simp [intOf]; omega)
       · go_wp2
         go_roundw
         case rel =>
          refine ⟨4, by omega, by go_num, Lib.hid ((blk_set HZr.out 3 _).trans ?_), Lib.hid (gl_set HGr.out (.inl si_) _)⟩
          exact congrArg (fun z => some (Obj.cells z 104 (0, 0))) (outC_set sm 3 om_ _ (by rw [outB_val sm HNNG.out 3 om_]; first | rfl | simp [s8L]))
         case measure => first | (simp [intOf]; done) | (simp [intOf]; omega)
       · go_wp2
         go_roundw
         case rel =>
          refine ⟨5, by omega, by go_num, Lib.hid ((blk_set HZr.out 4 _).trans ?_), Lib.hid (gl_set HGr.out (.inl si_) _)⟩
          exact congrArg (fun z => some (Obj.cells z 104 (0, 0))) (outC_set sm 4 om_ _ (by rw [outB_val sm HNNG.out 4 om_]; first | rfl | simp [s8L]))
         case measure => first | (simp [intOf]; done) | (simp [intOf]; omega)
       · go_wp2
         go_roundw
         case rel =>
          refine ⟨6, by omega, by go_num, Lib.hid ((blk_set HZr.out 5 _).trans ?_), Lib.hid (gl_set HGr.out (.inl si_) _)⟩
          exact congrArg (fun z => some (Obj.cells z 104 (0, 0))) (outC_set sm 5 om_ _ (by rw [outB_val sm HNNG.out 5 om_]; first | rfl | simp [s8L]))
         case measure => first | (simp [intOf]; done) | (simp [intOf]; omega)
       · go_wp2
         go_roundw
         case rel =>
          refine ⟨7, by omega, by go_num, Lib.hid ((blk_set HZr.out 6 _).trans ?_), Lib.hid (gl_set HGr.out (.inl si_) _)⟩
          exact congrArg (fun z => some (Obj.cells z 104 (0, 0))) (outC_set sm 6 om_ _ (by rw [outB_val sm HNNG.out 6 om_]; first | rfl | simp [s8L]))
         case measure => first | (simp [intOf]; done) | (simp [intOf]; omega)
       · go_wp2
         go_roundw
         case rel =>
          refine ⟨8, by omega, by go_num, Lib.hid ((blk_set HZr.out 7 _).trans ?_), Lib.hid (gl_set HGr.out (.inl si_) _)⟩
          exact congrArg (fun z => some (Obj.cells z 104 (0, 0))) (outC_set sm 7 om_ _ (by rw [outB_val sm HNNG.out 7 om_]; first | rfl | simp [s8L]))
         case measure => first | (simp [intOf]; done) | (simp [intOf]; omega)
       · go_wp2
         go_roundw
         case rel =>
          refine ⟨9, by omega, by go_num, Lib.hid ((blk_set HZr.out 8 _).trans ?_), Lib.hid (gl_set HGr.out (.inl si_) _)⟩
          exact congrArg (fun z => some (Obj.cells z 104 (0, 0))) (outC_set sm 8 om_ _ (by rw [outB_val sm HNNG.out 8 om_]; first | rfl | simp [s8L]))
         case measure => first | (simp [intOf]; done) | (simp [intOf]; omega)
       · go_wp2
         go_roundw
         case rel =>
          refine ⟨10, by omega, by go_num, Lib.hid ((blk_set HZr.out 9 _).trans ?_), Lib.hid (gl_set HGr.out (.inl si_) _)⟩
          exact congrArg (fun z => some (Obj.cells z 104 (0, 0))) (outC_set sm 9 om_ _ (by rw [outB_val sm HNNG.out 9 om_]; first | rfl | simp [s8L]))
         case measure => first | (simp [intOf]; done) | (simp [intOf]; omega)
       · go_wp2
         go_roundw
         case rel =>
          refine ⟨11, by omega, by go_num, Lib.hid ((blk_set HZr.out 10 _).trans ?_), Lib.hid (gl_set HGr.out (.inl si_) _)⟩
          exact congrArg (fun z => some (Obj.cells z 104 (0, 0))) (outC_set sm 10 om_ _ (by rw [outB_val sm HNNG.out 10 om_]; first | rfl | simp [s8L]))
         case measure => first | (simp [intOf]; done) | (simp [intOf]; omega)
       · go_wp2
         go_roundw
         case rel =>
          refine ⟨12, by omega, by go_num, Lib.hid ((blk_set HZr.out 11 _).trans ?_), Lib.hid (gl_set HGr.out (.inl si_) _)⟩
          exact congrArg (fun z => some (Obj.cells z 104 (0, 0))) (outC_set sm 11 om_ _ (by rw [outB_val sm HNNG.out 11 om_]; first | rfl | simp [s8L]))
         case measure => first | (simp [intOf]; done) | (simp [intOf]; omega)
       · go_wp2
         go_roundw
         case rel =>
          refine ⟨13, by omega, by go_num, Lib.hid ((blk_set HZr.out 12 _).trans ?_), Lib.hid (gl_set HGr.out (.inl si_) _)⟩
          exact congrArg (fun z => some (Obj.cells z 104 (0, 0))) (outC_set sm 12 om_ _ (by rw [outB_val sm HNNG.out 12 om_]; first | rfl | simp [s8L]))
         case measure => first | (simp [intOf]; done) | (simp [intOf]; omega)
       · go_wp2
         go_roundw
         case rel =>
          refine ⟨14, by omega, by go_num, Lib.hid ((blk_set HZr.out 13 _).trans ?_), Lib.hid (gl_set HGr.out (.inl si_) _)⟩
          exact congrArg (fun z => some (Obj.cells z 104 (0, 0))) (outC_set sm 13 om_ _ (by rw [outB_val sm HNNG.out 13 om_]; first | rfl | simp [s8L]))
         case measure => first | (simp [intOf]; done) | (simp [intOf]; omega)
       · go_wp2
         go_roundw
         case rel =>
          refine ⟨15, by omega, by go_num, Lib.hid ((blk_set HZr.out 14 _).trans ?_), Lib.hid (gl_set HGr.out (.inl si_) _)⟩
          exact congrArg (fun z => some (Obj.cells z 104 (0, 0))) (outC_set sm 14 om_ _ (by rw [outB_val sm HNNG.out 14 om_]; first | rfl | simp [s8L]))
         case measure => first | (simp [intOf]; done) | (simp [intOf]; omega)
       · go_wp2
         go_roundw
         case rel =>
          refine ⟨16, by omega, by go_num, Lib.hid ((blk_set HZr.out 15 _).trans ?_), Lib.hid (gl_set HGr.out (.inl si_) _)⟩
          exact congrArg (fun z => some (Obj.cells z 104 (0, 0))) (outC_set sm 15 om_ _ (by rw [outB_val sm HNNG.out 15 om_]; first | rfl | simp [s8L]))
         case measure => first | (simp [intOf]; done) | (simp [intOf]; omega)
       · go_wp2
         go_roundw
         case rel =>
          refine ⟨17, by omega, by go_num, Lib.hid ((blk_set HZr.out 16 _).trans ?_), Lib.hid (gl_set HGr.out (.inl si_) _)⟩
          exact congrArg (fun z => some (Obj.cells z 104 (0, 0))) (outC_set sm 16 om_ _ (by rw [outB_val sm HNNG.out 16 om_]; first | rfl | simp [s8L]))
         case measure => first | (simp [intOf]; done) | (simp [intOf]; omega)
       · go_wp2
         go_roundw
         case rel =>
          refine ⟨18, by omega, by go_num, Lib.hid ((blk_set HZr.out 17 _).trans ?_), Lib.hid (gl_set HGr.out (.inl si_) _)⟩
          exact congrArg (fun z => some (Obj.cells z 104 (0, 0))) (outC_set sm 17 om_ _ (by rw [outB_val sm HNNG.out 17 om_]; first | rfl | simp [s8L]))
         case measure => first | (simp [intOf]; done) | (simp [intOf]; omega)
       · go_wp2
         go_roundw
         case rel =>
          refine ⟨19, by omega, by go_num, Lib.hid ((blk_set HZr.out 18 _).trans ?_), Lib.hid (gl_set HGr.out (.inl si_) _)⟩
          exact congrArg (fun z => some (Obj.cells z 104 (0, 0))) (outC_set sm 18 om_ _ (by rw [outB_val sm HNNG.out 18 om_]; first | rfl | simp [s8L]))
         case measure => first | (simp [intOf]; done) | (simp [intOf]; omega)
       · go_wp2
         go_roundw
         case rel =>
          refine ⟨20, by omega, by go_num, Lib.hid ((blk_set HZr.out 19 _).trans ?_), Lib.hid (gl_set HGr.out (.inl si_) _)⟩
          exact congrArg (fun z => some (Obj.cells z 104 (0, 0))) (outC_set sm 19 om_ _ (by rw [outB_val sm HNNG.out 19 om_]; first | rfl | simp [s8L]))
         case measure => first | (simp [intOf]; done) | (simp [intOf]; omega)
       · go_wp2
         go_roundw
         case rel =>
          refine ⟨21, by omega, by go_num, Lib.hid ((blk_set HZr.out 20 _).trans ?_), Lib.hid (gl_set HGr.out (.inl si_) _)⟩
          exact congrArg (fun z => some (Obj.cells z 104 (0, 0))) (outC_set sm 20 om_ _ (by rw [outB_val sm HNNG.out 20 om_]; first | rfl | simp [s8L]))
         case measure => first | (simp [intOf]; done) | (simp [intOf]; omega)
       · go_wp2
         go_roundw
         case rel =>
          refine ⟨22, by omega, by go_num, Lib.hid ((blk_set HZr.out 21 _).trans ?_), Lib.hid (gl_set HGr.out (.inl si_) _)⟩
          exact congrArg (fun z => some (Obj.cells z 104 (0, 0))) (outC_set sm 21 om_ _ (by rw [outB_val sm HNNG.out 21 om_]; first | rfl | simp [s8L]))
         case measure => first | (simp [intOf]; done) | (simp [intOf]; omega)
       · go_wp2
         go_roundw
         case rel =>
          refine ⟨23, by omega, by go_num, Lib.hid ((blk_set HZr.out 22 _).trans ?_), Lib.hid (gl_set HGr.out (.inl si_) _)⟩
          exact congrArg (fun z => some (Obj.cells z 104 (0, 0))) (outC_set sm 22 om_ _ (by rw [outB_val sm HNNG.out 22 om_]; first | rfl | simp [s8L]))
         case measure => first | (simp [intOf]; done) | (simp [intOf]; omega)
       · go_wp2
         go_roundw
         case rel =>
          refine ⟨24, by omega, by go_num, Lib.hid ((blk_set HZr.out 23 _).trans ?_), Lib.hid (gl_set HGr.out (.inl si_) _)⟩
          exact congrArg (fun z => some (Obj.cells z 104 (0, 0))) (outC_set sm 23 om_ _ (by rw [outB_val sm HNNG.out 23 om_]; first | rfl | simp [s8L]))
         case measure => first | (simp [intOf]; done) | (simp [intOf]; omega)
       · go_wp2
         go_roundw
         case rel =>
          refine ⟨25, by omega, by go_num, Lib.hid ((blk_set HZr.out 24 _).trans ?_), Lib.hid (gl_set HGr.out (.inl si_) _)⟩
          exact congrArg (fun z => some (Obj.cells z 104 (0, 0))) (outC_set sm 24 om_ _ (by rw [outB_val sm HNNG.out 24 om_]; first | rfl | simp [s8L]))
         case measure => first | (simp [intOf]; done) | (simp [intOf]; omega)
       · go_wp2
         go_roundw
         case rel =>
          refine ⟨26, by omega, by go_num, Lib.hid ((blk_set HZr.out 25 _).trans ?_), Lib.hid (gl_set HGr.out (.inl si_) _)⟩
          exact congrArg (fun z => some (Obj.cells z 104 (0, 0))) (outC_set sm 25 om_ _ (by rw [outB_val sm HNNG.out 25 om_]; first | rfl | simp [s8L]))
         case measure => first | (simp [intOf]; done) | (simp [intOf]; omega)
       · go_wp2
         go_roundw
         case rel =>
          refine ⟨27, by omega, by go_num, Lib.hid ((blk_set HZr.out 26 _).trans ?_), Lib.hid (gl_set HGr.out (.inl si_) _)⟩
          exact congrArg (fun z => some (Obj.cells z 104 (0, 0))) (outC_set sm 26 om_ _ (by rw [outB_val sm HNNG.out 26 om_]; first | rfl | simp [s8L]))
         case measure => first | (simp [intOf]; done) | (simp [intOf]; omega)
       · go_wp2
         go_roundw
         case rel =>
          refine ⟨28, by omega, by go_num, Lib.hid ((blk_set HZr.out 27 _).trans ?_), Lib.hid (gl_set HGr.out (.inl si_) _)⟩
          exact congrArg (fun z => some (Obj.cells z 104 (0, 0))) (outC_set sm 27 om_ _ (by rw [outB_val sm HNNG.out 27 om_]; first | rfl | simp [s8L]))
         case measure => first | (simp [intOf]; done) | (simp [intOf]; omega)
       · go_wp2
         go_roundw
         case rel =>
          refine ⟨29, by omega, by go_num, Lib.hid ((blk_set HZr.out 28 _).trans ?_), Lib.hid (gl_set HGr.out (.inl si_) _)⟩
          exact congrArg (fun z => some (Obj.cells z 104 (0, 0))) (outC_set sm 28 om_ _ (by rw [outB_val sm HNNG.out 28 om_]; first | rfl | simp [s8L]))
         case measure => first | (simp [intOf]; done) | (simp [intOf]; omega)
       · go_wp2
         go_roundw
         case rel =>
          refine ⟨30, by omega, by go_num, Lib.hid ((blk_set HZr.out 29 _).trans ?_), Lib.hid (gl_set HGr.out (.inl si_) _)⟩
          exact congrArg (fun z => some (Obj.cells z 104 (0, 0))) (outC_set sm 29 om_ _ (by rw [outB_val sm HNNG.out 29 om_]; first | rfl | simp [s8L]))
         case measure => first | (simp [intOf]; done) | (simp [intOf]; omega)
       · go_wp2
         go_roundw
         case rel =>
          refine ⟨31, by omega, by go_num, Lib.hid ((blk_set HZr.out 30 _).trans ?_), Lib.hid (gl_set HGr.out (.inl si_) _)⟩
          exact congrArg (fun z => some (Obj.cells z 104 (0, 0))) (outC_set sm 30 om_ _ (by rw [outB_val sm HNNG.out 30 om_]; first | rfl | simp [s8L]))
         case measure => first | (simp [intOf]; done) | (simp [intOf]; omega)
       · go_wp2
         go_roundw
         case rel =>
          refine ⟨32, by omega, by go_num, Lib.hid ((blk_set HZr.out 31 _).trans ?_), Lib.hid (gl_set HGr.out (.inl si_) _)⟩
          exact congrArg (fun z => some (Obj.cells z 104 (0, 0))) (outC_set sm 31 om_ _ (by rw [outB_val sm HNNG.out 31 om_]; first | rfl | simp [s8L]))
         case measure => first | (simp [intOf]; done) | (simp [intOf]; omega)
     · obtain rfl : i = 32 := by omega
       clear hlt
       have e32 : outC sm 32 = (u8L (outB sm)).toArray := by
        unfold outC
        rw [List.take_of_length_le (by rw [outB_len]; omega)]
        simp
       have hO := HZr.out
       rw [e32] at hO
       have hRr := blk_gl HR4.out HGr.out so_
       have hgw : GL [] w wr := gl_step HGr.out HL4.out so_
       have hl32 : (u8L (outB sm)).length = 32 := by rw [u8L_len, outB_len]
       have hsc2 := run_storeCells_cells (P := Tryz.prog) w.heap.size 0 (u8L (outB sm)) 0 wr (fun j hj => by have := (there_blk hRr j (by rw [hl32] at hj; exact hj)).1; simpa using this) (fun j hj => by have := (there_blk hRr j (by rw [hl32] at hj; exact hj)).2; simpa using this) (fun x hx => by
        unfold u8L at hx
        obtain ⟨y, _, rfl⟩ := List.mem_map.1 hx
        rfl)
       rw [Nat.add_zero] at hsc2
       have hRf := blk_whole (vs := u8L (outB sm)) hRr (by rw [hl32]; rfl)
       have hlv := run_loadVar_mid (P := Tryz.prog) (wr.setCells w.heap.size 0 (u8L (outB sm))) w.heap.size 0 104 (u8L (outB sm)) _ (rangeAt_blk hRf) Tryz.underlying104 rfl (by rw [Tryz.sizeA32, hl32])
       have HFIN : Hid (Below w.heap.size w (wr.setCells w.heap.size 0 (u8L (outB sm)))) := Lib.hid (gl_to_below (gl_setCells (.inr (Nat.le_refl _)) _ 0 _ hgw))
       have HOc := Lib.hid hO
       clear hO hgw hRr hRf HZr HGr HC4 HO4 HR4 HL4
       generalize hob : u8L (outB sm) = ob at *
       go_wp2_with ((with_reducible refine wpList_load_mid rfl 104 (.tmp 6) rfl O 0 rfl ob _ ?hc Tryz.underlying104 rfl ?hi ?_; (case hc => exact rangeAt_blk HOc.out); (case hi => rw [Tryz.sizeA32, hl32])))
       exact bodyPost_ret (v := .agg ob.toArray) (by simp [results, Tryz.results79, asAddr, hlv]) rfl (by
        refine ⟨?_, HFIN.out⟩
        rw [HSM.out, hob])
def hexDg : List UInt8 := [48, 49, 50, 51, 52, 53, 54, 55, 56, 57, 97, 98, 99, 100, 101, 102]
theorem hexDg_at : ∀ k : Fin 16, List.take 1 (List.drop k.val hexDg) = [hexC k.val] := by decide
theorem hexB_step (ob : List UInt8) (i : Nat) (h : i < ob.length) : hexB (ob.take (i + 1)) = hexB (ob.take i) ++ [hexC ((ob.getD i 0).toNat / 16)] ++ [hexC ((ob.getD i 0).toNat % 16)] := by
 rw [List.take_succ_eq_append_getElem h, hexB_app, List.getD_eq_getElem?_getD, List.getElem?_eq_getElem h]
 simp [hexB]
theorem ref2Hex (l : List UInt8) (hl : l.length ≤ 100000000) (bv : Value) (w : World) (hin : InAt bv l w) :
  Calls Tryz.prog 42 #[bv] w fun e w' => e = .returned (.string (bs (hexT l))) ∧ Below w.heap.size w w' := by
 have HIN := Lib.hid hin
 obtain ⟨ba, bc, hbv, _, _⟩ := inAt_form hin
 subst hbv
 clear hin
 have HH : Hid (hexT l = hexB (outB (sumS l))) := Lib.hid rfl
 go_enter Tryz.func42, Tryz.ntmps42
 go_wp2_with fail
 refine (ref2Sum l hl _ w HIN.out).mono ?_
 rintro e w1 ⟨rfl, hb1⟩
 have hob : (outB (sumS l)).length = 32 := outB_len _
 generalize outB (sumS l) = ob at *
 have hsz : (u8L ob).length = 32 := by rw [u8L_len, hob]
 have hO0 : (w1.alloc (.cells #[.int .u8 0, .int .u8 0, .int .u8 0, .int .u8 0, .int .u8 0, .int .u8 0, .int .u8 0, .int .u8 0, .int .u8 0, .int .u8 0, .int .u8 0, .int .u8 0, .int .u8 0, .int .u8 0, .int .u8 0, .int .u8 0, .int .u8 0, .int .u8 0, .int .u8 0, .int .u8 0, .int .u8 0, .int .u8 0, .int .u8 0, .int .u8 0, .int .u8 0, .int .u8 0, .int .u8 0, .int .u8 0, .int .u8 0, .int .u8 0, .int .u8 0, .int .u8 0] 104)).heap[w1.heap.size]? = some (.cells #[.int .u8 0, .int .u8 0, .int .u8 0, .int .u8 0, .int .u8 0, .int .u8 0, .int .u8 0, .int .u8 0, .int .u8 0, .int .u8 0, .int .u8 0, .int .u8 0, .int .u8 0, .int .u8 0, .int .u8 0, .int .u8 0, .int .u8 0, .int .u8 0, .int .u8 0, .int .u8 0, .int .u8 0, .int .u8 0, .int .u8 0, .int .u8 0, .int .u8 0, .int .u8 0, .int .u8 0, .int .u8 0, .int .u8 0, .int .u8 0, .int .u8 0, .int .u8 0] 104 (0, 0)) := blk_new w1 _
 have hsc2 := run_storeCells_cells (P := Tryz.prog) w1.heap.size 0 (u8L ob) 0 (w1.alloc (.cells #[.int .u8 0, .int .u8 0, .int .u8 0, .int .u8 0, .int .u8 0, .int .u8 0, .int .u8 0, .int .u8 0, .int .u8 0, .int .u8 0, .int .u8 0, .int .u8 0, .int .u8 0, .int .u8 0, .int .u8 0, .int .u8 0, .int .u8 0, .int .u8 0, .int .u8 0, .int .u8 0, .int .u8 0, .int .u8 0, .int .u8 0, .int .u8 0, .int .u8 0, .int .u8 0, .int .u8 0, .int .u8 0, .int .u8 0, .int .u8 0, .int .u8 0, .int .u8 0] 104)) (fun j hj => by first | (simp; done) | (have := (there_blk hO0 j (by rw [hsz] at hj; exact hj)).1; simpa using this)) (fun j hj => by first | (simp; done) | (have := (there_blk hO0 j (by rw [hsz] at hj; exact hj)).2; simpa using this)) (fun x hx => by
  unfold u8L at hx
  obtain ⟨y, _, rfl⟩ := List.mem_map.1 hx
  rfl)
 rw [Nat.add_zero] at hsc2
 have HO1 := Lib.hid (blk_whole (vs := u8L ob) hO0 (by rw [hsz]; rfl))
 have HL1 : Hid (GL [] w ((w1.alloc (.cells #[.int .u8 0, .int .u8 0, .int .u8 0, .int .u8 0, .int .u8 0, .int .u8 0, .int .u8 0, .int .u8 0, .int .u8 0, .int .u8 0, .int .u8 0, .int .u8 0, .int .u8 0, .int .u8 0, .int .u8 0, .int .u8 0, .int .u8 0, .int .u8 0, .int .u8 0, .int .u8 0, .int .u8 0, .int .u8 0, .int .u8 0, .int .u8 0, .int .u8 0, .int .u8 0, .int .u8 0, .int .u8 0, .int .u8 0, .int .u8 0, .int .u8 0, .int .u8 0] 104)).setCells w1.heap.size 0 (u8L ob))) := Lib.hid (gl_setCells (.inr (gl_below hb1 (gl_refl [] w)).size) _ 0 _ (gl_alloc (gl_below hb1 (gl_refl _ _)) _))
 clear hO0 hb1 HIN
 go_wp2_with fail
 clear hsc2
 generalize (w1.alloc (.cells #[.int .u8 0, .int .u8 0, .int .u8 0, .int .u8 0, .int .u8 0, .int .u8 0, .int .u8 0, .int .u8 0, .int .u8 0, .int .u8 0, .int .u8 0, .int .u8 0, .int .u8 0, .int .u8 0, .int .u8 0, .int .u8 0, .int .u8 0, .int .u8 0, .int .u8 0, .int .u8 0, .int .u8 0, .int .u8 0, .int .u8 0, .int .u8 0, .int .u8 0, .int .u8 0, .int .u8 0, .int .u8 0, .int .u8 0, .int .u8 0, .int .u8 0, .int .u8 0] 104)).setCells w1.heap.size 0 (u8L ob) = w2 at *
 generalize w1.heap.size = O at *
 rw [show (Value.string ⟨#[48, 49, 50, 51, 52, 53, 54, 55, 56, 57, 97, 98, 99, 100, 101, 102]⟩) = Value.string (bs [48, 49, 50, 51, 52, 53, 54, 55, 56, 57, 97, 98, 99, 100, 101, 102]) from rfl]
 go_loopw [4, 6] (fun sv iv wr => ∃ i : Nat, i ≤ 32 ∧ iv = .int .i64 (i : Int) ∧ sv = .string (bs (hexB (ob.take i))) ∧ Hid (wr.heap[O]? = some (.cells (u8L ob).toArray 104 (0, 0))) ∧ Hid (GL [] w wr)) (fun _ iv _ => 32 - (intOf iv).toNat)
 case atStart => exact ⟨0, by omega, rfl, rfl, HO1, HL1⟩
 case round =>
  obtain ⟨i, hi, rfl, rfl, HO, HL⟩ := hrel
  by_cases hlt : i < 32
  · have HST := Lib.hid (hexB_step ob i om_)
    have hix : (u8L ob).toArray[i]? = some (.int .u8 (ob.getD i 0).toNat) := by
     rw [List.getElem?_toArray]
     unfold u8L
     rw [List.getElem?_map, List.getElem?_eq_getElem om_, List.getD_eq_getElem?_getD, List.getElem?_eq_getElem om_]
     rfl
    have fc := (blk_cell HO.out i).trans hix
    have hc := (ob.getD i 0).toNat_lt
    have hlx : (hexB (ob.take i)).length ≤ 64 := by rw [hexB_len, List.length_take]; omega
    generalize (ob.getD i 0).toNat = c at *
    generalize hexB (ob.take i) = sx at *
    obtain ⟨p, hp⟩ : ∃ p : Nat, p = c / 16 := ⟨_, rfl⟩
    obtain ⟨q, hq⟩ : ∃ q : Nat, q = c % 16 := ⟨_, rfl⟩
    rw [← hp, ← hq] at HST
    have hpi : (c : Int) / 16 = (p : Int) := by omega
    have hqi : (c : Int) % 16 = (q : Int) := by omega
    have hp16 : p < 16 := by omega
    have hq16 : q < 16 := by omega
    have k1 := hexDg_at ⟨p, hp16⟩
    have k2 := hexDg_at ⟨q, hq16⟩
    simp only [hexDg] at k1 k2
    have p1 : (0 : Int) ≤ p ∧ (p : Int) ≤ (p : Int) + 1 := by omega
    have q1 : (0 : Int) ≤ q ∧ (q : Int) ≤ (q : Int) + 1 := by omega
    have p2 : (p : Int) + 1 ≤ 16 := by omega
    have q2 : (q : Int) + 1 ≤ 16 := by omega
    have p3 : ((p : Int) + 1).toNat = p + 1 := by omega
    have q3 : ((q : Int) + 1).toNat = q + 1 := by omega
    have p4 : IntKind.i64.wrap ((p : Int) + 1) = (p : Int) + 1 := IntWalk.i64_in _ om_
    have q4 : IntKind.i64.wrap ((q : Int) + 1) = (q : Int) + 1 := IntWalk.i64_in _ om_
    have r1 : IntKind.u8.wrap (p : Int) = (p : Int) := by rw [IntKind.wrap_u8]; omega
    have r2 : IntKind.i64.wrap (p : Int) = (p : Int) := IntWalk.i64_in _ om_
    have r3 : (c : Int).tmod 16 = (q : Int) := by rw [Int.tmod_eq_emod_of_nonneg om_]; omega
    have r4 : IntKind.i64.wrap (q : Int) = (q : Int) := IntWalk.i64_in _ om_
    have i32 : (i : Int) < 32 := by omega
    have i33 : (0 : Int) ≤ (i : Int) ∧ (i : Int) < 32 := by omega
    have i34 : decide ((i : Int) < 32) = true := by simp; omega
    have n1 : ¬ (9223372036854775807 < sx.length + 1) := by omega
    have n2 : ¬ (9223372036854775807 < sx.length + 1 + 1) := by omega
    have HP := Lib.hid hp
    have HQ := Lib.hid hq
    have hix2 := hix
    clear hp hq hix
    go_wp2_with fail
    go_still (by kernel_rfl)
    rw [show ({ heap := wr.heap, tape := wr.tape, drawn := wr.drawn + 1, os := wr.os, output := wr.output } : World) = wr.drew from rfl]
    have HO5 : Hid (wr.drew.heap[O]? = some (.cells (u8L ob).toArray 104 (0, 0))) := Lib.hid HO.out
    have HL5 : Hid (GL [] w wr.drew) := Lib.hid (gl_drew HL.out)
    clear HO HL fc
    generalize wr.drew = w5 at *
    go_wp2_with fail
    go_still (by kernel_rfl)
    rw [show ({ heap := w5.heap, tape := w5.tape, drawn := w5.drawn + 1, os := w5.os, output := w5.output } : World) = w5.drew from rfl]
    have HO6 : Hid (w5.drew.heap[O]? = some (.cells (u8L ob).toArray 104 (0, 0))) := Lib.hid HO5.out
    have HL6 : Hid (GL [] w w5.drew) := Lib.hid (gl_drew HL5.out)
    clear HO5 HL5
    generalize w5.drew = w6 at *
    go_wp2_with fail
    go_roundw
    case rel => exact ⟨i + 1, by omega, by go_num, by rw [HST.out]; simp, HO6, HL6⟩
    case measure => simp [intOf]; omega
  · obtain rfl : i = 32 := by omega
    rw [List.take_of_length_le om_]
    go_wp2_with fail
    exact bodyPost_ret (v := .string (bs (hexB ob))) (by simp [results, Tryz.results42, go_sem]) rfl ⟨by rw [HH.out], gl_to_below HL.out⟩
end Go.Proofs.YtembdkodajichaaGreatDoor
