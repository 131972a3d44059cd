/- InvoiceWrites: what is signed, an invoice's text, as the document says. -/
import Derived.Test.YtembdkodajichaaGreatDoorR2G
import Derived.Test.YtembdkodajichaaGreatDoorBechD
import Derived.Test.YtembdkodajichaaGreatDoorBechA
import Derived.Test.YtembdkodajichaaGreatDoorBitsP
import Derived.Test.YtembdkodajichaaGreatDoorDigD
import Derived.Deep.AppendSrc
import Derived.Test.YtembdkodajichaaGreatDoorBitsA
import Derived.Test.YtembdkodajichaaGreatDoorInvW
import Derived.Test.YtembdkodajichaaGreatDoorInvX
import Derived.Test.YtembdkodajichaaGreatDoorVerA
import Derived.Test.YtembdkodajichaaGreatDoorMRef
import Derived.Test.YtembdkodajichaaGreatDoorInvY
import Derived.Test.YtembdkodajichaaGreatDoorInvZ
import Derived.Test.YtembdkodajichaaGreatDoorLawI2
set_option maxRecDepth 100000
set_option maxHeartbeats 8000000
set_option linter.unusedSimpArgs false
set_option linter.unusedVariables false
namespace Go.Proofs.YtembdkodajichaaGreatDoor
open Go.RowKit
theorem hrpC_bad {c : UInt8} (h : hrpC c = false) : c.toNat < 33 ∨ 126 < c.toNat ∨ (65 ≤ c.toNat ∧ c.toNat ≤ 90) := by
 unfold hrpC isUp at h
 simp only [Bool.and_eq_false_iff, decide_eq_false_iff_not, Bool.not_eq_false', decide_eq_true_eq] at h
 omega
theorem hrpC_ok {c : UInt8} (h : hrpC c = true) : 33 ≤ c.toNat ∧ c.toNat ≤ 126 ∧ ¬ (65 ≤ c.toNat ∧ c.toNat ≤ 90) := by
 unfold hrpC isUp at h
 simp only [Bool.and_eq_true, decide_eq_true_eq, Bool.not_eq_true', decide_eq_false_iff_not] at h
 omega
theorem ref6Head (s : List UInt8) (hs : s.length ≤ 1000000) (w : World) :
  Calls Tryz.prog 91 #[.string (bs s)] w fun e w' => e = .returned (.bool (hrpOk s)) ∧ w' = w := by
 go_enter Tryz.func91, Tryz.ntmps91
 go_wp2_with fail
 go_loopw [3] (fun iv wr => ∃ i : Nat, i ≤ s.length ∧ iv = .int .i64 i ∧ Hid (∀ j, (hj : j < s.length) → j < i → hrpC s[j] = true) ∧ Hid (wr = w)) (fun iv _ => s.length - (intOf iv).toNat)
 case atStart => exact ⟨0, by omega, rfl, Lib.hid (fun j _ h => by omega), Lib.hid rfl⟩
 case round =>
  obtain ⟨i, hi, rfl, HA, hw⟩ := hrel
  obtain rfl := hw.out
  clear hw
  by_cases hlt : i < s.length
  · have hix : ∀ W, (Instr.index 9 (.string (bs s)) (.int .i64 (i : Int))).run Tryz.prog W = .ok (.int .u8 ((s[i]).toNat : Nat)) W := fun W => by rw [index_strK W .i64 s i hlt, getD_at hlt]
    have hi0 : (0 : Int) ≤ i := by omega
    have hlb : decide ((i : Int) < s.length) = true := by simp; omega
    cases hd : hrpC s[i] with
    | false =>
      have HW : Hid (hrpOk s = false) := Lib.hid (by
       have : s.all hrpC = false := by
        rw [List.all_eq_false]
        exact ⟨s[i], List.getElem_mem hlt, by rw [hd]; simp⟩
       unfold hrpOk
       rw [this]
       simp)
      have hcase := hrpC_bad hd
      clear hd HA
      generalize s[i].toNat = c at *
      rcases hcase with hc | hc | hc
      · have h1 : decide ((c : Int) < 33) = true := by simp; omega
        go_wp2_with fail
        exact bodyPost_ret (v := .bool false) (by simp [results, Tryz.results91, go_sem]) rfl ⟨by rw [HW.out], rfl⟩
      · have h1 : decide ((c : Int) < 33) = false := by simp; omega
        have h2 : decide ((126 : Int) < c) = true := by simp; omega
        go_wp2_with fail
        exact bodyPost_ret (v := .bool false) (by simp [results, Tryz.results91, go_sem]) rfl ⟨by rw [HW.out], rfl⟩
      · have h1 : decide ((c : Int) < 33) = false := by simp; omega
        have h2 : decide ((126 : Int) < c) = false := by simp; omega
        have h3 : decide ((65 : Int) ≤ c) = true := by simp; omega
        have h4 : decide ((c : Int) ≤ 90) = true := by simp; omega
        go_wp2_with fail
        exact bodyPost_ret (v := .bool false) (by simp [results, Tryz.results91, go_sem]) rfl ⟨by rw [HW.out], rfl⟩
    | true =>
      have HA2 : Hid (∀ j, (hj : j < s.length) → j < i + 1 → hrpC s[j] = true) := Lib.hid (fun j hj h => by
       by_cases e : j = i
       · subst e; exact hd
       · exact HA.out j hj om_)
      have hcase := hrpC_ok hd
      clear hd HA
      generalize s[i].toNat = c at *
      have h1 : decide ((c : Int) < 33) = false := by simp; omega
      have h2 : decide ((126 : Int) < c) = false := by simp; omega
      by_cases h65 : 65 ≤ c
      · have h3 : decide ((65 : Int) ≤ c) = true := by simp; omega
        have h4 : decide ((c : Int) ≤ 90) = false := by simp; omega
        go_wp2_with fail
        exact ⟨⟨i + 1, by omega, by go_num, HA2, by first | exact Lib.hid rfl | exact Lib.hid trivial⟩, by simp [intOf]; omega⟩
      · have h3 : decide ((65 : Int) ≤ c) = false := by simp; omega
        go_wp2_with fail
        exact ⟨⟨i + 1, by omega, by go_num, HA2, by first | exact Lib.hid rfl | exact Lib.hid trivial⟩, by simp [intOf]; omega⟩
  · obtain rfl : i = s.length := by omega
    have hall : s.all hrpC = true := by
     rw [List.all_eq_true]
     intro x hx
     obtain ⟨j, hj, rfl⟩ := List.getElem_of_mem hx
     exact HA.out j hj hj
    have hlb : decide (((s.length : Nat) : Int) < s.length) = false := by simp
    have HW : Hid (hrpOk s = (decide (1 ≤ s.length) && decide (s.length ≤ 83))) := Lib.hid (by unfold hrpOk; rw [hall, Bool.and_true])
    clear HA hall
    have h2 : decide ((s.length : Int) ≤ 83) = decide (s.length ≤ 83) := by congr 1; simp; omega
    by_cases hp : 1 ≤ s.length
    · have h1 : decide ((1 : Int) ≤ s.length) = true := by simp; omega
      rw [decide_eq_true hp, Bool.true_and] at HW
      go_wp2_with fail
      exact bodyPost_ret (v := .bool (decide (s.length ≤ 83))) (by simp [results, Tryz.results91, go_sem]) rfl ⟨by rw [HW.out], rfl⟩
    · have h1 : decide ((1 : Int) ≤ s.length) = false := by simp; omega
      rw [decide_eq_false hp, Bool.false_and] at HW
      go_wp2_with fail
      exact bodyPost_ret (v := .bool false) (by simp [results, Tryz.results91, go_sem]) rfl ⟨by rw [HW.out], rfl⟩
theorem and31_u8 (c : UInt8) : bits .and .u8 (c.toNat : Int) 31 = ((c.toNat % 32 : Nat) : Int) := u8_every (p := fun c => bits .and .u8 (c.toNat : Int) 31 = ((c.toNat % 32 : Nat) : Int)) (by decide +kernel) c
theorem map_take_succ {α : Type} (f : UInt8 → α) (s : List UInt8) (i : Nat) (h : i < s.length) : (s.take (i + 1)).map f = (s.take i).map f ++ [f s[i]] := by
 rw [List.take_succ_eq_append_getElem h, List.map_append]
 rfl
theorem ref6Heads (s : List UInt8) (hs : s.length ≤ 1000000) (w : World) :
  Calls Tryz.prog 92 #[.string (bs s)] w fun e w' => ∃ v, e = .returned v ∧ OwnB w.heap.size v (hrpW s) w' ∧ Below w.heap.size w w' := by
 go_enter Tryz.func92, Tryz.ntmps92
 go_wp2_with fail
 go_loopw [3, 4] (fun v iv wr => ∃ i : Nat, i ≤ s.length ∧ iv = .int .i64 i ∧ Hid (OwnB w.heap.size v ((s.take i).map fun c : UInt8 => UInt8.ofNat (c.toNat / 32)) wr) ∧ Hid (GL [] w wr)) (fun _ iv _ => s.length - (intOf iv).toNat)
 case atStart => exact ⟨0, by omega, rfl, Lib.hid (ownB_nil _ _), Lib.hid (gl_refl _ _)⟩
 case round =>
  obtain ⟨i, hi, rfl, HO, HL⟩ := hrel
  obtain ⟨ad, c, hv⟩ := ownB_form HO.out
  subst hv
  have hlen : ((s.take i).map fun c : UInt8 => UInt8.ofNat (c.toNat / 32)).length = i := by rw [List.length_map, List.length_take]; omega
  rw [hlen] at HO ⊢
  by_cases hlt : i < s.length
  · have hix : ∀ W, (Instr.index 9 (.string (bs s)) (.int .i64 (i : Int))).run Tryz.prog W = .ok (.int .u8 ((s[i]).toNat : Nat)) W := fun W => by rw [index_strK W .i64 s i hlt, getD_at hlt]
    have hi0 : (0 : Int) ≤ i := by omega
    have hlb : decide ((i : Int) < s.length) = true := by simp; omega
    have HT := Lib.hid (map_take_succ (fun c : UInt8 => UInt8.ofNat (c.toNat / 32)) s i hlt)
    have hc := s[i].toNat_lt
    have hX : ((s[i].toNat : Int)) / 32 = ((UInt8.ofNat (s[i].toNat / 32)).toNat : Nat) := by rw [UInt8.toNat_ofNat']; omega
    obtain ⟨g3, c3, w3, hrun3, hown3, hl3⟩ := app_byte w wr _ _ (UInt8.ofNat (s[i].toNat / 32)) _ hX HO.out (by rw [hlen]; omega) HL.out
    rw [hlen] at hrun3 hown3
    have HRUN := Lib.hid hrun3
    have HO3 : Hid (OwnB w.heap.size (.slice (some ⟨g3, 0, none⟩) (i + 1) c3) ((s.take (i + 1)).map fun c : UInt8 => UInt8.ofNat (c.toNat / 32)) w3) := Lib.hid (by rw [HT.out]; exact hown3)
    have HL3 := Lib.hid hl3
    clear hrun3 hown3 hl3 hX
    generalize s[i].toNat = cc at *
    go_wp2_with (at_builtin; refine wpList_append_run _ rfl (.tmp 12) (.tmp 17) 47 47 rfl _ _ (by simp [Act.eval, Act.put]) (by simp [Act.eval, Act.put]) HRUN.out ?_)
    exact ⟨⟨i + 1, by omega, by go_num, HO3, HL3⟩, by simp [intOf]; omega⟩
  · obtain rfl : i = s.length := by omega
    rw [List.take_of_length_le (Nat.le_refl _)] at HO hlen
    have hlb : decide (((s.length : Nat) : Int) < s.length) = false := by simp
    obtain ⟨g3, c3, w3, hrun3, hown3, hl3⟩ := app_byte w wr _ _ 0 0 rfl HO.out (by rw [hlen]; omega) HL.out
    rw [hlen] at hrun3 hown3
    have HRUN := Lib.hid hrun3
    have HO3 := Lib.hid hown3
    have HL3 := Lib.hid hl3
    have hPl : ((s.map fun c : UInt8 => UInt8.ofNat (c.toNat / 32)) ++ [0]).length = s.length + 1 := by simp
    have HW : Hid (hrpW s = ((s.map fun c : UInt8 => UInt8.ofNat (c.toNat / 32)) ++ [0]) ++ s.map fun c : UInt8 => UInt8.ofNat (c.toNat % 32)) := Lib.hid (by unfold hrpW; simp)
    generalize (s.map fun c : UInt8 => UInt8.ofNat (c.toNat / 32)) ++ [0] = P at *
    clear hrun3 hown3 hl3 hlt HO HL
    go_wp2_with (at_builtin; refine wpList_append_run _ rfl (.tmp 19) (.tmp 20) 47 47 rfl _ _ (by simp [Act.eval, Act.put]) (by simp [Act.eval, Act.put]) HRUN.out ?_)
    clear HRUN
    go_loopw [3, 5] (fun v iv wr => ∃ i : Nat, i ≤ s.length ∧ iv = .int .i64 i ∧ Hid (OwnB w.heap.size v (P ++ (s.take i).map fun c : UInt8 => UInt8.ofNat (c.toNat % 32)) wr) ∧ Hid (GL [] w wr)) (fun _ iv _ => s.length - (intOf iv).toNat)
    case atStart => exact ⟨0, by omega, rfl, Lib.hid (by rw [List.take_zero, List.map_nil, List.append_nil]; exact HO3.out), HL3⟩
    case round =>
     obtain ⟨i, hi, rfl, HO, HL⟩ := hrel
     obtain ⟨ad2, c2, hv⟩ := ownB_form HO.out
     subst hv
     have hlen2 : (P ++ (s.take i).map fun c : UInt8 => UInt8.ofNat (c.toNat % 32)).length = s.length + 1 + i := by rw [List.length_append, hPl, List.length_map, List.length_take]; omega
     rw [hlen2] at HO ⊢
     by_cases hlt : i < s.length
     · have hix : ∀ W, (Instr.index 9 (.string (bs s)) (.int .i64 (i : Int))).run Tryz.prog W = .ok (.int .u8 ((s[i]).toNat : Nat)) W := fun W => by rw [index_strK W .i64 s i hlt, getD_at hlt]
       have hi0 : (0 : Int) ≤ i := by omega
       have hlb2 : decide ((i : Int) < s.length) = true := by simp; omega
       have HT := Lib.hid (map_take_succ (fun c : UInt8 => UInt8.ofNat (c.toNat % 32)) s i hlt)
       have hand := and31_u8 s[i]
       have hX : ((s[i].toNat % 32 : Nat) : Int) = ((UInt8.ofNat (s[i].toNat % 32)).toNat : Nat) := by rw [UInt8.toNat_ofNat']; omega
       obtain ⟨g3, c3, w3, hrun3, hown3, hl3⟩ := app_byte w wr _ _ (UInt8.ofNat (s[i].toNat % 32)) _ hX HO.out (by rw [hlen2]; omega) HL.out
       rw [hlen2] at hrun3 hown3
       rw [← hand] at hrun3
       have HRUN := Lib.hid hrun3
       have HO4 : Hid (OwnB w.heap.size (.slice (some ⟨g3, 0, none⟩) (s.length + 1 + i + 1) c3) (P ++ (s.take (i + 1)).map fun c : UInt8 => UInt8.ofNat (c.toNat % 32)) w3) := Lib.hid (by rw [HT.out, ← List.append_assoc]; exact hown3)
       have HL4 := Lib.hid hl3
       clear hrun3 hown3 hl3 hX hand
       generalize s[i].toNat = cc at *
       go_wp2_with (at_builtin; refine wpList_append_run _ rfl (.tmp 28) (.tmp 33) 47 47 rfl _ _ (by simp [Act.eval, Act.put]) (by simp [Act.eval, Act.put]) HRUN.out ?_)
       exact ⟨⟨i + 1, by omega, by go_num, HO4, HL4⟩, by simp [intOf]; omega⟩
     · obtain rfl : i = s.length := by omega
       rw [List.take_of_length_le (Nat.le_refl _)] at HO
       clear hlt
       go_wp2_with fail
       exact bodyPost_ret (v := .slice ad2 (s.length + 1 + s.length) c2) (by simp [results, Tryz.results92, go_sem]) rfl ⟨_, rfl, by rw [HW.out]; exact HO.out, gl_to_below HL.out⟩
def turnI : List Int := [996825010, 642813549, 513874426, 1027748829, 705979059]
theorem turnI_get : ∀ k : Fin 5, turnI.getD k.val 0 = ((turnK.getD k.val 0 : Nat) : Int) := by decide
theorem turnK_lt : ∀ k : Fin 5, turnK.getD k.val 0 < 1073741824 := by decide
theorem turnI_wL : wL turnI = [.int .u32 996825010, .int .u32 642813549, .int .u32 513874426, .int .u32 1027748829, .int .u32 705979059] := rfl
theorem ref6Check (l : List UInt8) (hl : l.length ≤ 1000000000) (bv : Value) (w : World) (hin : InAt bv l w) :
  Calls Tryz.prog 93 #[bv] w fun e w' => e = .returned (.int .u32 ((poly 1 l : Nat) : Int)) ∧ Below w.heap.size w w' := by
 obtain ⟨ba, bc, hbv, hbc, hb0⟩ := inAt_form hin
 subst hbv
 have HIN := Lib.hid hin
 have HB0 := Lib.hid hb0
 clear hin hb0
 go_enter Tryz.func93, Tryz.ntmps93
 go_wp2_with fail
 go_loopw [3, 4] (fun cv iv wr => ∃ i P : Nat, i ≤ l.length ∧ P < 1073741824 ∧ iv = .int .i64 (i : Int) ∧ cv = .int .u32 (P : Int) ∧ Hid (P = poly 1 (l.take i)) ∧ Hid (GL [] w wr)) (fun _ iv _ => l.length - (intOf iv).toNat)
 case atStart => exact ⟨0, 1, by omega, by omega, rfl, rfl, Lib.hid rfl, Lib.hid (gl_refl _ _)⟩
 case round =>
  obtain ⟨i, P, hi, hP, rfl, rfl, HP, HL⟩ := hrel
  by_cases hlt : i < l.length
  · obtain ⟨G, o, hba, hbt⟩ := HB0.out (by intro e; subst e; simp at hlt)
    subst hba
    have fc : wr.cell? ⟨G, o + i, none⟩ = some (.int .u8 (l.getD i 0).toNat) := cell_gl0 hbt.1 (hbt.2 i hlt) HL.out
    have hc := (l.getD i 0).toNat_lt
    have HS : Hid (poly 1 (l.take (i + 1)) = turnG turnK (P / 2 ^ 25) (((P % 2 ^ 25) * 32) ^^^ (l.getD i 0).toNat)) := Lib.hid (by
     rw [List.take_succ_eq_append_getElem hlt, poly_append, ← HP.out, getD_at hlt]
     rfl)
    have hfe := first_eq P (l.getD i 0).toNat om_ om_
    have hs0 : (((P % 2 ^ 25) * 32) ^^^ (l.getD i 0).toNat) < 2 ^ 30 := Nat.xor_lt_two_pow om_ om_
    generalize (l.getD i 0).toNat = x at *
    generalize hS0 : ((P % 2 ^ 25) * 32) ^^^ x = s0 at *
    clear hS0
    have hx1 : IntKind.u32.wrap (x : Int) = x := by rw [IntKind.wrap_u32]; omega
    have hi0 : (0 : Int) ≤ i := by omega
    have hi1 : (i : Int) < l.length := by omega
    have hlb : decide ((i : Int) < l.length) = true := by simp; omega
    obtain ⟨t, ht⟩ : ∃ t : Nat, t = P / 2 ^ 25 := ⟨_, rfl⟩
    rw [← ht] at HS
    have ht2 : (P : Int) / 33554432 = (t : Int) := by omega
    have ht3 : t < 32 := by omega
    have HT := Lib.hid ht
    clear ht
    go_wp2_with fail
    have hb5 := blk_new wr (.cells (wL turnI).toArray 121)
    rw [turnI_wL] at hb5
    have HL5 : Hid (GL [] w (wr.alloc (.cells #[.int .u32 996825010, .int .u32 642813549, .int .u32 513874426, .int .u32 1027748829, .int .u32 705979059] 121))) := Lib.hid (gl_alloc HL.out _)
    have HB5 : Hid ((wr.alloc (.cells #[.int .u32 996825010, .int .u32 642813549, .int .u32 513874426, .int .u32 1027748829, .int .u32 705979059] 121)).heap[wr.heap.size]? = some (.cells (wL turnI).toArray 121 (0, 0))) := Lib.hid hb5
    clear hb5 fc HL
    generalize wr.alloc (.cells #[.int .u32 996825010, .int .u32 642813549, .int .u32 513874426, .int .u32 1027748829, .int .u32 705979059] 121) = w5 at *
    generalize wr.heap.size = T at *
    go_loopw [3, 7] (fun cv kv wq => ∃ k A : Nat, k ≤ 5 ∧ A < 1073741824 ∧ kv = .int .i64 (k : Int) ∧ cv = .int .u32 (A : Int) ∧ Hid (A = partG k t s0) ∧ Hid (wq = w5)) (fun _ kv _ => 5 - (intOf kv).toNat)
    case atStart => exact ⟨0, s0, by omega, by omega, rfl, by first | rfl | (simp; done), Lib.hid rfl, Lib.hid rfl⟩
    case round =>
     obtain ⟨k, A, hk, hA, rfl, rfl, HA, hw⟩ := hrel
     have hw2 := hw.out
     subst hw2
     by_cases hk5 : k < 5
     · have hk0 : (0 : Int) ≤ k := by omega
       have hk1 : (k : Int) < 5 := by omega
       have hk2 : decide ((k : Int) < 5) = true := by simp; omega
       have hst := partG_step k t s0 hk5
       rw [← HA.out] at hst
       have HST := Lib.hid hst
       have htk : t / 2 ^ k < 4294967296 := Nat.lt_of_le_of_lt (Nat.div_le_self _ _) om_
       have hand : bits .and .u32 ((t : Int) / 2 ^ k) 1 = ((t / 2 ^ k % 2 : Nat) : Int) := by
        have := and_1 (t / 2 ^ k) htk
        rw [← this]
        push_cast
        rfl
       have hK := turnK_lt ⟨k, hk5⟩
       have fk : wr.cell? ⟨T, k, none⟩ = some (.int .u32 ((turnK.getD k 0 : Nat) : Int)) := by
        rw [blk_cell HB5.out]
        have h1 : k < turnI.length := hk5
        have h2 := turnI_get ⟨k, hk5⟩
        simp only at h2
        rw [← h2, List.getElem?_toArray]
        unfold wL
        rw [List.getElem?_map, List.getElem?_eq_getElem h1, List.getD_eq_getElem?_getD, List.getElem?_eq_getElem h1]
        rfl
       simp only at hK
       generalize turnK.getD k 0 = Kk at *
       clear hst
       by_cases hbit : t / 2 ^ k % 2 = 1
       · have hbb : (bits .and .u32 ((t : Int) / 2 ^ k) 1 == 1) = true := by rw [hand, hbit]; rfl
         have hxo := xor_u32 A Kk om_ om_
         have HA2 : Hid (A ^^^ Kk = partG (k + 1) t s0) := Lib.hid (by rw [HST.out, if_pos hbit])
         have hlt2 : A ^^^ Kk < 1073741824 := by
          rw [HA2.out]
          exact partG_lt (k + 1) t s0 om_ hs0
         clear hand hbit
         go_wp2_with fail
         exact ⟨⟨k + 1, A ^^^ Kk, by omega, hlt2, by go_num, by first | rfl | rw [hxo], HA2, by first | exact Lib.hid rfl | exact Lib.hid trivial⟩, by simp [intOf]; omega⟩
       · have hbb : (bits .and .u32 ((t : Int) / 2 ^ k) 1 == 1) = false := by rw [hand, beq_eq_false_iff_ne]; omega
         have HA2 : Hid (A = partG (k + 1) t s0) := Lib.hid (by rw [HST.out, if_neg hbit, Nat.xor_zero])
         clear hand hbit
         go_wp2_with fail
         exact ⟨⟨k + 1, A, by omega, hA, by go_num, rfl, HA2, by first | exact Lib.hid rfl | exact Lib.hid trivial⟩, by simp [intOf]; omega⟩
     · obtain rfl : k = 5 := by omega
       have HAE : Hid (A = poly 1 (l.take (i + 1))) := Lib.hid (by rw [HA.out, partG_all, HS.out])
       go_wp2_with fail
       exact ⟨⟨i + 1, A, by omega, hA, by go_num, rfl, HAE, HL5⟩, by simp [intOf]; omega⟩
  · obtain rfl : i = l.length := by omega
    have HPE : Hid (poly 1 l = P) := Lib.hid (by rw [HP.out, List.take_length])
    clear hlt
    go_wp2_with fail
    exact bodyPost_ret (v := .int .u32 (P : Int)) (by simp [results, Tryz.results93, go_sem]) rfl ⟨by rw [HPE.out], gl_to_below HL.out⟩
theorem digB_add (b a : Nat) : ∀ (c v : Nat), digB b (a + c) v = digB b a (v / b ^ c) ++ digB b c v
 | 0, v => by rw [Nat.pow_zero, Nat.div_one, Nat.add_zero]; exact (List.append_nil _).symm
 | c + 1, v => by
   rw [← Nat.add_assoc, digB, digB_add b a c (v / b), digB, ← List.append_assoc, Nat.div_div_eq_div_mul, Nat.pow_succ, Nat.mul_comm]
theorem valB_digB_mod {b : Nat} (hb : b ≤ 256) (hb0 : 0 < b) : ∀ (n v : Nat), valB b (digB b n v) = v % b ^ n
 | 0, v => by rw [Nat.pow_zero, Nat.mod_one]; rfl
 | n + 1, v => by
   rw [digB, valB_snoc, valB_digB_mod hb hb0 n (v / b)]
   have h1 := Nat.mod_lt v hb0
   rw [UInt8.toNat_ofNat', Nat.mod_eq_of_lt (a := v % b) om_, Nat.pow_succ, Nat.mul_comm (b ^ n) b, Nat.mod_mul, Nat.mul_comm]
   omega
theorem digB_take (b a c v : Nat) : (digB b (a + c) v).take a = digB b a (v / b ^ c) := by
 rw [digB_add, List.take_left' (digB_len _ _ _)]
theorem digB_drop (b a c v : Nat) : (digB b (a + c) v).drop a = digB b c v := by
 rw [digB_add, List.drop_left' (digB_len _ _ _)]
theorem row_bit (m V nn : Nat) (h : 1 ≤ nn) : digB 2 (m + 1) (V / 2 ^ (nn - 1)) = digB 2 m (V / 2 ^ nn) ++ [UInt8.ofNat (V / 2 ^ (nn - 1) % 2)] := by
 rw [digB, Nat.div_div_eq_div_mul, ← Nat.pow_succ, show (nn - 1).succ = nn by omega]
theorem low_bit (V x f k : Nat) (hk : k < f) : (V * 2 ^ f + x) / 2 ^ k % 2 = x / 2 ^ k % 2 := by
 have h : 2 ^ f = 2 ^ k * (2 * 2 ^ (f - 1 - k)) := by rw [← Nat.pow_succ', ← Nat.pow_add]; congr 1; omega
 rw [h, show V * (2 ^ k * (2 * 2 ^ (f - 1 - k))) + x = x + 2 ^ k * (V * (2 * 2 ^ (f - 1 - k))) by rw [Nat.mul_left_comm]; omega, Nat.add_mul_div_left _ _ (Nat.two_pow_pos k)]
 rw [show V * (2 * 2 ^ (f - 1 - k)) = 2 * (V * 2 ^ (f - 1 - k)) by rw [Nat.mul_left_comm]]
 omega
theorem digB_zeros (m V : Nat) : ∀ k, digB 2 m V ++ List.replicate k 0 = digB 2 (m + k) (V * 2 ^ k)
 | 0 => by simp
 | k + 1 => by
   rw [List.replicate_succ', ← List.append_assoc, digB_zeros m V k, ← Nat.add_assoc, digB, Nat.pow_succ, ← Nat.mul_assoc, Nat.mul_div_cancel _ om_, Nat.mul_mod_left]
   rfl
theorem pad_last (t q V r : Nat) (hr : r ≤ t) : digB (2 ^ t) (q + 1) (V * 2 ^ (t - r)) = digB (2 ^ t) q (V / 2 ^ r) ++ [UInt8.ofNat (V * 2 ^ (t - r) % 2 ^ t)] := by
 rw [digB]
 congr 2
 rw [show 2 ^ t = 2 ^ r * 2 ^ (t - r) by rw [← Nat.pow_add]; congr 1; omega, Nat.mul_div_mul_right _ _ (Nat.two_pow_pos _)]
theorem or_bit : ∀ (n : Fin 128) (b : Fin 2), bits .or .u8 ((n.val : Int) * 2) (b.val : Int) = ((n.val * 2 + b.val : Nat) : Int) := by decide +kernel
theorem valB2_lt (l : List UInt8) (hl : ∀ x ∈ l, x.toNat < 2) : valB 2 l < 2 ^ l.length := valB_lt l hl
theorem ref6Number (l : List UInt8) (hl : l.length ≤ 8) (h2 : ∀ x ∈ l, x.toNat < 2) (bv : Value) (w : World) (hin : InAt bv l w) :
  Calls Tryz.prog 135 #[bv] w fun e w' => e = .returned (.int .u8 ((valB 2 l : Nat) : Int)) ∧ w' = w := by
 obtain ⟨ba, bc, hbv, hbc, hb0⟩ := inAt_form hin
 subst hbv
 have HB0 := Lib.hid hb0
 clear hin hb0
 go_enter Tryz.func135, Tryz.ntmps135
 go_wp2_with fail
 go_loopw [3, 4] (fun cv iv wr => ∃ i n : Nat, i ≤ l.length ∧ iv = .int .i64 (i : Int) ∧ cv = .int .u8 (n : Int) ∧ Hid (n = valB 2 (l.take i)) ∧ Hid (wr = w)) (fun _ iv _ => l.length - (intOf iv).toNat)
 case atStart => exact ⟨0, 0, by omega, rfl, rfl, Lib.hid rfl, Lib.hid rfl⟩
 case round =>
  obtain ⟨i, n, hi, rfl, rfl, HN, hw⟩ := hrel
  have hw2 := hw.out
  subst hw2
  by_cases hlt : i < l.length
  · obtain ⟨G, o, hba, hbt⟩ := HB0.out (by intro e; subst e; simp at hlt)
    subst hba
    have fc : wr.cell? ⟨G, o + i, none⟩ = some (.int .u8 (l.getD i 0).toNat) := hbt.2 i hlt
    have hb : (l.getD i 0).toNat < 2 := by rw [getD_at hlt]; exact h2 _ (List.getElem_mem hlt)
    have hS : valB 2 (l.take (i + 1)) = valB 2 (l.take i) * 2 + (l.getD i 0).toNat := by rw [List.take_succ_eq_append_getElem hlt, valB_snoc, getD_at hlt]
    rw [← HN.out] at hS
    have HS := Lib.hid hS
    have hn : n < 128 := by
     have h := valB2_lt (l.take i) (fun x hx => h2 x (List.mem_of_mem_take hx))
     rw [← HN.out, List.length_take] at h
     have : 2 ^ min i l.length ≤ 2 ^ 7 := Nat.pow_le_pow_right om_ om_
     omega
    generalize (l.getD i 0).toNat = b at *
    have hor := or_bit ⟨n, hn⟩ ⟨b, hb⟩
    simp only at hor
    have hi0 : (0 : Int) ≤ i := by omega
    have hi1 : (i : Int) < l.length := by omega
    have hlb : decide ((i : Int) < l.length) = true := by simp; omega
    clear hS
    go_wp2_with fail
    exact ⟨⟨i + 1, n * 2 + b, by omega, by go_num, by first | rw [hor] | go_num, Lib.hid HS.out.symm, by first | exact Lib.hid rfl | exact Lib.hid trivial⟩, by simp [intOf]; omega⟩
  · obtain rfl : i = l.length := by omega
    have HE : Hid (valB 2 l = n) := Lib.hid (by rw [HN.out, List.take_length])
    clear hlt
    go_wp2_with fail
    exact bodyPost_ret (v := .int .u8 (n : Int)) (by simp [results, Tryz.results135, go_sem]) rfl ⟨by rw [HE.out], rfl⟩
def TailAt (g : Nat) (v : Value) (l : List UInt8) (W : World) : Prop := ∃ off c arr fz, v = .slice (some ⟨g, off, none⟩) l.length c ∧ l.length ≤ c ∧ (W.heap[g]? = some (.cells arr 5 fz) ∧ (fz = (0, 0) ∨ arr.size ≤ fz.1)) ∧ off + c ≤ arr.size ∧ ∀ j, (hj : j < l.length) → arr[off + j]? = some (.int .u8 (l[j]).toNat)
theorem blk_cellF {w : World} {B T : Nat} {cs : Array Value} {fz : Nat × Nat} (h : w.heap[B]? = some (.cells cs T fz)) (j : Nat) : w.cell? ⟨B, j, none⟩ = cs[j]? := by simp [World.cell?, h]
theorem freeF {w : World} {B T : Nat} {cs : Array Value} {fz : Nat × Nat} (h : w.heap[B]? = some (.cells cs T fz)) (hf : fz = (0, 0) ∨ cs.size ≤ fz.1) (j : Nat) (hj : j < cs.size) : w.frozen? ⟨B, j, none⟩ = false := by
 obtain ⟨a, b⟩ := fz
 rcases hf with hf | hf
 · cases hf
   exact blk_free h j
 · simp only [World.frozen?, h]
   simp at hf
   have : ¬ a ≤ j := by omega
   simp [this]
theorem tail_in {g : Nat} {v : Value} {l : List UInt8} {W : World} (h : TailAt g v l W) : InAt v l W := by
 obtain ⟨off, c, arr, fz, rfl, hc, ⟨hb, _⟩, hs, hg⟩ := h
 refine inAt_mk rfl hc fun _ => ⟨g, off, rfl, blk_lt hb, fun j hj => ?_⟩
 rw [blk_cellF hb, hg j hj, getD_at hj]
theorem tail_blk {g : Nat} {v : Value} {l : List UInt8} {w W : World} (h : TailAt g v l w) (hg : W.heap[g]? = w.heap[g]?) : TailAt g v l W := by
 obtain ⟨off, c, arr, fz, hv, hc, hb, hs, hj⟩ := h
 exact ⟨off, c, arr, fz, hv, hc, by rw [hg]; exact hb, hs, hj⟩
theorem tail_form {g : Nat} {v : Value} {l : List UInt8} {W : World} (h : TailAt g v l W) : ∃ off c, v = .slice (some ⟨g, off, none⟩) l.length c := by
 obtain ⟨off, c, _, _, hv, _⟩ := h
 exact ⟨off, c, hv⟩
theorem app_tail (g : Nat) (W0 : World) (v : Value) (l : List UInt8) (y : UInt8) (X : Int) (hX : X = y.toNat) (h : TailAt g v l W0) (hlen : l.length ≤ 1000000) :
  ∃ g' off' c' w', (Builtin.append_ #[47, 47] 47 #[v, .slice (some ⟨W0.heap.size, 0, none⟩) 1 1]).run Tryz.prog (W0.alloc (.cells #[.int .u8 X] 5)) = .ok (.slice (some ⟨g', off', none⟩) (l.length + 1) c') w' ∧
   TailAt g' (.slice (some ⟨g', off', none⟩) (l.length + 1) c') (l ++ [y]) w' ∧ (g' = g ∨ W0.heap.size < g') ∧ GL [g] W0 w' := by
 subst hX
 obtain ⟨off, c, arr, fz, rfl, hc, ⟨hb, hfz⟩, hs, hj⟩ := h
 obtain ⟨t0, ht0, ht1, ht2, ht3⟩ := info_parts Tryz.infoB8
 have hgl := blk_lt hb
 have hb1 := blk_alloc hb (.cells #[.int .u8 (y.toNat : Int)] 5)
 have hsrc : Src Tryz.prog t0.size 47 (.slice (some ⟨W0.heap.size, 0, none⟩) 1 1) 1 [.int .u8 (y.toNat : Int)] (W0.alloc (.cells #[.int .u8 (y.toNat : Int)] 5)) := Src.ofSlice _ Tryz.underlying47 _ 1 1 _ (by rw [ht2]; rfl) (fun j u hu => by
  have hj0 : j = 0 := by
   have := (List.getElem?_eq_some_iff.1 hu).1
   simpa using this
  subst hj0
  simp at hu
  subst hu
  exact blk_cell (blk_new W0 _) 0) (fun u hu => by
  simp at hu
  subst hu
  rfl)
 by_cases hroom : l.length + 1 ≤ c
 · have hr := run_append_room_src (P := Tryz.prog) (w := W0.alloc (.cells #[.int .u8 (y.toNat : Int)] 5)) 47 47 47 5 t0 Tryz.underlying47 ht0 g off l.length c _ 1 _ hsrc hroom (fun j hj1 => by
    rw [blk_cellF hb1, ht2]
    have : j = 0 := by simpa using hj1
    subst this
    rw [Array.getElem?_eq_getElem om_]
    rfl) (fun j hj1 => freeF hb1 hfz _ (by
    have : j = 0 := by simpa using hj1
    rw [ht2]
    omega))
   rw [ht2] at hr
   refine ⟨g, off, c, _, hr, ⟨off, c, _, fz, by rw [List.length_append]; rfl, by rw [List.length_append]; exact hroom, ⟨blk_setCells _ _ _ _ hb1 so_, hfz.imp id (fun h => by simp; omega)⟩, ?_, ?_⟩, .inl rfl, gl_setCells (.inl si_) _ _ _ (gl_alloc (gl_refl _ _) _)⟩
   · simp
     omega
   · intro j hj2
     rw [List.length_append] at hj2
     simp only [List.length_cons, List.length_nil] at hj2
     rw [List.getElem?_toArray, List.append_assoc]
     by_cases hjl : j < l.length
     · rw [List.getElem?_append_left so_, List.getElem?_take_of_lt om_, Array.getElem?_toList, hj j hjl, List.getElem_append_left hjl]
     · have hje : j = l.length := by omega
       subst hje
       have e0 : (List.take (off + l.length * 1) arr.toList).length = off + l.length := by rw [List.length_take, show arr.toList.length = arr.size from Array.length_toList]; omega
       have e1 : (l ++ [y])[l.length] = y := by simp
       rw [List.getElem?_append_right (by rw [e0]; exact Nat.le_refl _), e0, Nat.sub_self, e1]
       rfl
 · have hold : (Builtin.firstCells t0.size l.length (.slice (some ⟨g, off, none⟩) l.length c)).run Tryz.prog (W0.alloc (.cells #[.int .u8 (y.toNat : Int)] 5)).drew = .ok (u8L l).toArray (W0.alloc (.cells #[.int .u8 (y.toNat : Int)] 5)).drew := run_firstCells_some _ t0.size l.length ⟨g, off, none⟩ l.length c (u8L l) (by rw [ht2, u8L_len, Nat.mul_one]) (fun j u hu => by
    obtain ⟨h1, hu2⟩ := u8L_get l j u hu
    have e : (⟨g, off, none⟩ : Addr).add j = ⟨g, off + j, none⟩ := by unfold Addr.add; split <;> simp_all
    rw [e]
    have := (blk_cellF (blk_drew hb1) (off + j)).trans (hj j h1)
    rw [hu2, getD_at h1]
    exact this)
   have hr := run_append_grow_src (P := Tryz.prog) (w := W0.alloc (.cells #[.int .u8 (y.toNat : Int)] 5)) 47 47 47 5 t0 (.int .u8 0) Tryz.underlying47 ht0 ht1 (some ⟨g, off, none⟩) l.length c (u8L l) hold _ 1 _ hsrc om_ om_ (by
    have := nextslicecap_le (need := l.length + 1) (old := c) om_
    rw [ht3]
    omega)
   have hge := grownCap_ge (W0.alloc (.cells #[.int .u8 (y.toNat : Int)] 5)) (l.length + 1) c 5
   refine ⟨_, 0, _, _, hr, ⟨0, _, _, (0, 0), by rw [List.length_append]; rfl, by rw [List.length_append]; exact hge, ⟨blk_new _ _, .inl rfl⟩, ?_, ?_⟩, .inr si_, gl_alloc (gl_drew (gl_alloc (gl_refl _ _) _)) _⟩
   · simp only [Array.size_append, List.size_toArray, size_zeroCells, List.length_append, u8L_len]
     have : (Value.int IntKind.u8 0).cells.size = 1 := rfl
     rw [this]
     simp
     omega
   · intro j hj2
     rw [List.length_append] at hj2
     simp only [List.length_cons, List.length_nil] at hj2
     rw [Nat.zero_add, Array.getElem?_append_left (by simp [u8L_len]; omega), List.getElem?_toArray]
     by_cases hjl : j < l.length
     · rw [List.getElem?_append_left (by rw [u8L_len]; exact hjl), List.getElem_append_left hjl]
       unfold u8L
       rw [List.getElem?_map, List.getElem?_eq_getElem hjl]
       rfl
     · have hje : j = l.length := by omega
       subst hje
       have e1 : (l ++ [y])[l.length] = y := by simp
       rw [List.getElem?_append_right (by rw [u8L_len]; omega), u8L_len, Nat.sub_self, e1]
       rfl
theorem cv_tail {v : Value} {l : List UInt8} {w : World} (h : CvAt v l w) : ∃ g, v.ownBlock = some g ∧ TailAt g v l w := by
 obtain ⟨G, c, cur, fz, rfl, h2, h3, h4, h5, h6, h7⟩ := h
 refine ⟨G, rfl, 0, c, cur, fz, rfl, h2, ⟨h4, .inr h5⟩, by omega, fun j hj => ?_⟩
 rw [Nat.zero_add, u8L_at h7 j hj, getD_at hj]
theorem and1_u8 : ∀ c : Fin 256, bits .and .u8 (c.val : Int) 1 = ((c.val % 2 : Nat) : Int) := by decide +kernel
theorem own_mono {lo lo' : Nat} {v : Value} {l : List UInt8} {w : World} (h : OwnB lo' v l w) (hl : lo ≤ lo') : OwnB lo v l w := by
 unfold OwnB at h ⊢
 refine ⟨h.1, ?_⟩
 rcases h.2 with h2 | ⟨g, cap, cur, h1, hb, h3⟩
 · exact .inl h2
 · exact .inr ⟨g, cap, cur, h1, Nat.le_trans hl hb, h3⟩
theorem own_tail {lo : Nat} {v : Value} {l : List UInt8} {w : World} (h : OwnB lo v l w) (h0 : l ≠ []) : ∃ g, lo ≤ g ∧ TailAt g v l w := by
 unfold OwnB at h
 have hpos := List.length_pos_iff.2 h0
 rcases h.2 with ⟨_, h2⟩ | ⟨g, cap, cur, hv, hb, hg, hnc, hcm, hcs, htake⟩
 · omega
 · refine ⟨g, hb, 0, cap, cur, (0, 0), hv, hnc, ⟨hg, .inl rfl⟩, by omega, fun j hj => ?_⟩
   rw [Nat.zero_add]
   rw [Nat.mul_one] at htake
   have := u8L_at (l := l) (cur := cur) htake j hj
   rw [this, getD_at hj]
theorem digB2_lt (n v : Nat) : ∀ x ∈ digB 2 n v, x.toNat < 2 := digB_lt om_ om_ n v
def RestAt (g : Nat) (v : Value) (l : List UInt8) (W : World) : Prop := ∃ a c, v = .slice a l.length c ∧ l.length ≤ c ∧ (l ≠ [] → TailAt g v l W)
theorem rest_in {g : Nat} {v : Value} {l : List UInt8} {W : World} (h : RestAt g v l W) : InAt v l W := by
 obtain ⟨a, c, rfl, hc, ht⟩ := h
 by_cases h0 : l = []
 · subst h0
   exact inAt_mk rfl si_ (fun h => absurd rfl h)
 · exact tail_in (ht h0)
theorem rest_blk {g : Nat} {v : Value} {l : List UInt8} {w W : World} (h : RestAt g v l w) (hg : W.heap[g]? = w.heap[g]?) : RestAt g v l W := by
 obtain ⟨a, c, hv, hc, ht⟩ := h
 exact ⟨a, c, hv, hc, fun h0 => tail_blk (ht h0) hg⟩
theorem rest_drop {g off n c k : Nat} {l : List UInt8} {W : World} (h : RestAt g (.slice (some ⟨g, off, none⟩) n c) l W) (hk : k ≤ l.length) (hn : n = l.length) : RestAt g (.slice (some ⟨g, off + k, none⟩) (n - k) (c - k)) (l.drop k) W := by
 obtain ⟨a, c', hv, hc, ht⟩ := h
 injection hv with e1 e2 e3
 subst e1 e3
 refine ⟨_, _, by rw [List.length_drop, hn], by rw [List.length_drop]; omega, fun h0 => ?_⟩
 have hl0 : l ≠ [] := fun e => by subst e; exact h0 si_
 obtain ⟨off', c2, arr, fz, hv2, hc2, hb, hs, hj⟩ := ht hl0
 injection hv2 with e1 _ e3
 injection e1 with e1
 injection e1 with _ e1
 subst e1 e3
 rw [hn]
 refine ⟨off + k, c - k, arr, fz, by rw [List.length_drop], by rw [List.length_drop]; omega, hb, by omega, fun j hj2 => ?_⟩
 rw [List.length_drop] at hj2
 rw [Nat.add_assoc, hj (k + j) om_, List.getElem_drop]
theorem ref6Bits85 (l : List UInt8) (bv : Value) (w : World) (hin : InAt bv l w) (hll : l.length ≤ 100000) :
  Calls Tryz.prog 90 #[bv, .int .i64 8, .int .i64 5, .bool true] w fun e w' => BitsO w.heap.size (bitsP 8 5 true l) e w' ∧ Below w.heap.size w w' := by
 obtain ⟨ba, bc, hbv, hbc, hb0⟩ := inAt_form hin
 subst hbv
 have HB0 := Lib.hid hb0
 clear hin hb0
 go_enter Tryz.func90, Tryz.ntmps90
 go_wp2_with fail
 go_loopw [10, 11] (fun v iv wr => ∃ i V : Nat, i ≤ l.length ∧ iv = .int .i64 (i : Int) ∧ Hid (V = valB 256 (l.take i)) ∧ Hid (∀ x ∈ l.take i, x.toNat < 256) ∧ Hid (OwnB w.heap.size v (digB 2 (8 * i) V) wr) ∧ Hid (GL [] w wr)) (fun _ iv _ => l.length - (intOf iv).toNat)
 case atStart => exact ⟨0, 0, by omega, rfl, Lib.hid rfl, Lib.hid (fun x hx => by simp at hx), Lib.hid (ownB_nil _ _), Lib.hid (gl_refl _ _)⟩
 case round =>
  obtain ⟨i, V, hi, rfl, HV, HS, HO, HL⟩ := hrel
  obtain ⟨ad, c, hv⟩ := ownB_form HO.out
  subst hv
  rw [digB_len] at HO ⊢
  by_cases hlt : i < l.length
  · obtain ⟨G, o, hba, hbt⟩ := HB0.out (by intro e; subst e; simp at hlt)
    subst hba
    have fc : wr.cell? ⟨G, o + i, none⟩ = some (.int .u8 (l.getD i 0).toNat) := cell_gl0 hbt.1 (hbt.2 i hlt) HL.out
    have hc := (l.getD i 0).toNat_lt
    have hi0 : (0 : Int) ≤ i := by omega
    have hi1 : (i : Int) < l.length := by omega
    have hlb : decide ((i : Int) < l.length) = true := by simp; omega
    have HVS : Hid (valB 256 (l.take (i + 1)) = V * 2 ^ 8 + (l.getD i 0).toNat) := Lib.hid (by rw [List.take_succ_eq_append_getElem hlt, valB_snoc, HV.out, getD_at hlt])
    by_cases hbig : 256 ≤ (l.getD i 0).toNat
    · have hnone : bitsP 8 5 true l = none := by
       unfold bitsP
       rw [if_pos]
       rw [List.any_eq_true]
       exact ⟨l.getD i 0, by rw [getD_at hlt]; exact List.getElem_mem hlt, by simpa using hbig⟩
      have HNO := Lib.hid hnone
      clear hnone HVS
      generalize (l.getD i 0).toNat = x at *
      have hbb : decide ((256 : Int) ≤ x) = true := by simp; omega
      have hbx : IntKind.i64.wrap (x : Int) = x := IntWalk.i64_in _ om_
      go_wp2_with fail
      go_region
      go_wp2_with fail
      exact bodyPost_ret (v := .tuple #[.slice none 0 0, .int .i64 50]) (by simp [results, Tryz.results90, go_sem]) rfl ⟨bitsO_none HNO.out, gl_to_below (gl_drew HL.out)⟩
    · have HS2 : Hid (∀ x ∈ l.take (i + 1), x.toNat < 256) := Lib.hid (fun x hx => by
       rw [List.take_succ_eq_append_getElem hlt] at hx
       rcases List.mem_append.1 hx with hx | hx
       · exact HS.out x hx
       · simp at hx
         subst hx
         rw [getD_at hlt] at hbig
         omega)
      generalize (l.getD i 0).toNat = x at *
      have hbb : decide ((256 : Int) ≤ x) = false := by simp; omega
      have hbx : IntKind.i64.wrap (x : Int) = x := IntWalk.i64_in _ om_
      have fcd : wr.drew.cell? ⟨G, o + i, none⟩ = some (.int .u8 x) := fc
      have HO1 : Hid (OwnB w.heap.size (.slice ad (8 * i) c) (digB 2 (8 * i) V) wr.drew) := Lib.hid HO.out.drew
      have HL1 : Hid (GL [] w wr.drew) := Lib.hid (gl_drew HL.out)
      go_wp2_with fail
      go_region
      clear fc HO HL hbb
      generalize wr.drew = w1 at *
      have HBX := Lib.hid (show G < w.heap.size from hbt.1)
      have HFC : Hid (w.cell? ⟨G, o + i, none⟩ = some (.int .u8 x)) := Lib.hid (by
       have := fcd
       simp only [World.cell?, HL1.out.block _ hbt.1 si_] at this ⊢
       exact this)
      clear fcd
      go_wp2_with fail
      go_loopw [10, 12] (fun v kv wr => ∃ m : Nat, m ≤ 8 ∧ kv = .int .i64 (7 - (m : Int)) ∧ Hid (OwnB w.heap.size v (digB 2 (8 * i + m) ((V * 2 ^ 8 + x) / 2 ^ (8 - m))) wr) ∧ Hid (GL [] w wr)) (fun _ kv _ => (intOf kv + 1).toNat)
      case atStart => exact ⟨0, by omega, rfl, Lib.hid (by rw [Nat.add_zero, Nat.sub_zero, show (V * 2 ^ 8 + x) / 2 ^ 8 = V by omega]; exact HO1.out), HL1⟩
      case round =>
       obtain ⟨m, hm, rfl, HO2, HL2⟩ := hrel
       obtain ⟨ad2, c2, hv2⟩ := ownB_form HO2.out
       subst hv2
       rw [digB_len] at HO2 ⊢
       by_cases hmf : m < 8
       · obtain ⟨K, hK⟩ : ∃ K : Nat, K = 7 - m := ⟨_, rfl⟩
         rw [show (7 - (m : Int)) = (K : Int) by omega]
         have hK0 : (0 : Int) ≤ K := by omega
         have hKd : decide ((0 : Int) ≤ K) = true := by simp
         have fx : wr.cell? ⟨G, o + i, none⟩ = some (.int .u8 x) := cell_gl0 HBX.out HFC.out HL2.out
         have hrb := row_bit (8 * i + m) (V * 2 ^ 8 + x) (8 - m) om_
         have hlow := low_bit V x 8 K om_
         rw [show 8 - m - 1 = K by omega, hlow] at hrb
         have HRB := Lib.hid hrb
         have hxk : x / 2 ^ K < 256 := Nat.lt_of_le_of_lt (Nat.div_le_self _ _) om_
         have hand := and1_u8 ⟨x / 2 ^ K, hxk⟩
         simp only at hand
         have hX : bits .and .u8 ((x : Int) / 2 ^ K) 1 = (UInt8.ofNat (x / 2 ^ K % 2)).toNat := by
          rw [UInt8.toNat_ofNat']
          have e : ((x / 2 ^ K : Nat) : Int) = (x : Int) / 2 ^ K := by push_cast; rfl
          rw [← e, hand]
          omega
         obtain ⟨g3, c3, w3, hrun3, hown3, hl3⟩ := app_byte w wr _ _ (UInt8.ofNat (x / 2 ^ K % 2)) _ hX HO2.out (by rw [digB_len]; omega) HL2.out
         rw [digB_len] at hrun3 hown3
         rw [← HRB.out] at hown3
         have HRUN := Lib.hid hrun3
         have HO3 : Hid (OwnB w.heap.size (.slice (some ⟨g3, 0, none⟩) (8 * i + m + 1) c3) (digB 2 (8 * i + (m + 1)) ((V * 2 ^ 8 + x) / 2 ^ (8 - (m + 1)))) w3) := Lib.hid (by rw [show 8 - (m + 1) = K by omega]; exact hown3)
         have HL3 := Lib.hid hl3
         have HK := Lib.hid hK
         have hK9 : K ≤ 7 := by omega
         clear hrun3 hown3 hl3 hX hK hand hrb hlow hxk
         go_wp2_with (at_builtin; refine wpList_append_run _ rfl (.tmp 48) (.tmp 56) 47 47 rfl _ _ (by simp [Act.eval, Act.put]) (by simp [Act.eval, Act.put]) HRUN.out ?_)
         exact ⟨⟨m + 1, by omega, by have := HK.out; go_num, HO3, HL3⟩, by have := HK.out; first | (simp [intOf]; done) | (simp [intOf]; omega)⟩
       · obtain rfl : m = 8 := by omega
         have HO3 : Hid (OwnB w.heap.size (.slice ad2 (8 * i + 8) c2) (digB 2 (8 * (i + 1)) (V * 2 ^ 8 + x)) wr) := Lib.hid (by
          have := HO2.out
          rw [Nat.sub_self, Nat.pow_zero, Nat.div_one] at this
          exact this)
         go_wp2_with fail
         exact ⟨⟨i + 1, V * 2 ^ 8 + x, by omega, by go_num, Lib.hid HVS.out.symm, HS2, HO3, HL2⟩, by simp [intOf]; omega⟩
  · obtain rfl : i = l.length := by omega
    have hlb : decide (((l.length : Nat) : Int) < l.length) = false := by simp
    rw [List.take_length] at HV HS
    clear hlt
    obtain ⟨N, hN⟩ : ∃ N, N = 8 * l.length := ⟨_, rfl⟩
    rw [← hN] at HO ⊢
    have HNN := Lib.hid hN
    have hNb : N ≤ 800000 := by omega
    clear hN
    generalize hwa : wr = wa at *
    clear hwa
    obtain ⟨g, hgw, hgl, hra⟩ : ∃ g, w.heap.size ≤ g ∧ (0 < N → g < wa.heap.size) ∧ RestAt g (.slice ad N c) (digB 2 N V) wa := by
     by_cases h0 : digB 2 N V = []
     · have hN0 : N = 0 := by have := congrArg List.length h0; rw [digB_len] at this; exact this
       subst hN0
       exact ⟨w.heap.size, Nat.le_refl _, by omega, ad, c, rfl, by simp [digB], fun h => absurd rfl h⟩
     · obtain ⟨g, h1, h2⟩ := own_tail HO.out h0
       refine ⟨g, h1, fun _ => ?_, ad, c, by rw [digB_len], ?_, fun _ => h2⟩
       · obtain ⟨_, _, _, _, _, _, ⟨hb, _⟩, _⟩ := h2
         exact blk_lt hb
       · obtain ⟨_, c', hv', hc', _⟩ : ∃ off c' , (Value.slice ad N c) = .slice (some ⟨g, off, none⟩) (digB 2 N V).length c' ∧ (digB 2 N V).length ≤ c' ∧ True := by
          obtain ⟨off, c', _, _, hv', hc', _⟩ := h2
          exact ⟨off, c', hv', hc', trivial⟩
         injection hv' with _ _ e3
         subst e3
         exact hc'
    have HRA := Lib.hid hra
    clear hra HO
    go_wp2_with fail
    go_loopw [10, 13] (fun rv ov wr => ∃ j m : Nat, 5 * j + m = N ∧ Hid (RestAt g rv (digB 2 m V) wr) ∧ Hid (OwnB wa.heap.size ov (digB 32 j (V / 2 ^ m)) wr) ∧ Hid (GL [] wa wr)) (fun rv _ _ => lenV rv)
    case atStart => exact ⟨0, N, by omega, HRA, Lib.hid (ownB_nil _ _), Lib.hid (gl_refl _ _)⟩
    case round =>
     obtain ⟨j, m, hjm, HR, HOo, HLa⟩ := hrel
     obtain ⟨oa, oc, hov⟩ := ownB_form HOo.out
     subst hov
     rw [digB_len] at HOo ⊢
     obtain ⟨ra, rc, hrv, hrc, hrt⟩ := HR.out
     subst hrv
     rw [digB_len] at hrc
     rw [digB_len] at HR ⊢
     by_cases hmt : 5 ≤ m
     · obtain ⟨m', hm'⟩ : ∃ m', m = 5 + m' := ⟨m - 5, by omega⟩
       subst hm'
       obtain ⟨off, c', htv⟩ := tail_form (hrt (fun e => by have := congrArg List.length e; rw [digB_len] at this; first | (simp at this; done) | (simp at this; omega)))
       injection htv with e1 _ e3
       subst e1 e3
       have hgl2 := hgl om_
       have hI1 := inAt_take (rest_in HR.out) (n := 5) (c2 := rc) (by rw [digB_len]; omega) om_
       rw [digB_take] at hI1
       have HNUM := Lib.hid (ref6Number (digB 2 5 (V / 2 ^ m')) (by rw [digB_len]; omega) (digB2_lt _ _) _ wr hI1)
       rw [valB_digB_mod om_ om_] at HNUM
       have hmod : V / 2 ^ m' % 2 ^ 5 < 256 := Nat.lt_of_lt_of_le (Nat.mod_lt _ om_) om_
       have hX : (((V / 2 ^ m' % 2 ^ 5 : Nat)) : Int) = (UInt8.ofNat (V / 2 ^ m' % 2 ^ 5)).toNat := by rw [UInt8.toNat_ofNat']; omega
       obtain ⟨g3, c3, w3, hrun3, hown3, hl3⟩ := app_byte wa wr _ _ (UInt8.ofNat (V / 2 ^ m' % 2 ^ 5)) _ hX HOo.out (by rw [digB_len]; omega) HLa.out
       have hst := digB_step 5 j (5 + m') V om_
       rw [show 5 + m' - 5 = m' by omega] at hst
       rw [digB_len] at hrun3 hown3
       rw [show (32 : Nat) = 2 ^ 5 by decide, ← hst] at hown3
       have HRUN := Lib.hid hrun3
       have HO3 : Hid (OwnB wa.heap.size (.slice (some ⟨g3, 0, none⟩) (j + 1) c3) (digB 32 (j + 1) (V / 2 ^ m')) w3) := Lib.hid hown3
       have HL3 := Lib.hid hl3
       have HRB : Hid (RestAt g (.slice (some ⟨g, off, none⟩) (5 + m') rc) (digB 2 (5 + m') V) w3) := Lib.hid (rest_blk HR.out (by rw [hl3.block _ hgl2 si_, HLa.out.block _ hgl2 si_]))
       have hmI : ((5 : Int)) ≤ ((5 + m' : Nat) : Int) := by omega
       have hdm : decide (((5 : Int)) ≤ ((5 + m' : Nat) : Int)) = true := by rw [decide_eq_true_eq]; omega
       have hrc2 : 5 ≤ rc := by omega
       generalize V / 2 ^ m' % 2 ^ 5 = XX at *
       clear hrun3 hown3 hl3 hX hst hI1
       by_cases hct : rc = 5
       · have hm0 : m' = 0 := by omega
         subst hm0 hct
         have HRE : Hid (∀ W, RestAt g (.slice (some ⟨g, off, none⟩) 0 0) (digB 2 0 V) W) := Lib.hid (fun W => ⟨_, _, rfl, by simp [digB], fun h => absurd rfl h⟩)
         go_wp2_with (first | (go_at_call 135; refine HNUM.out.mono ?_; rintro e w9 ⟨rfl, hw9⟩; subst hw9) | (at_builtin; refine wpList_append_run _ rfl (.tmp 62) (.tmp 67) 47 47 rfl _ _ (by simp [Act.eval, Act.put]) (by simp [Act.eval, Act.put]) HRUN.out ?_))
         exact ⟨⟨j + 1, 0, by omega, Lib.hid (HRE.out _), HO3, HL3⟩, by simp [lenV]⟩
       · go_wp2_with (first | (go_at_call 135; refine HNUM.out.mono ?_; rintro e w9 ⟨rfl, hw9⟩; subst hw9) | (at_builtin; refine wpList_append_run _ rfl (.tmp 62) (.tmp 67) 47 47 rfl _ _ (by simp [Act.eval, Act.put]) (by simp [Act.eval, Act.put]) HRUN.out ?_))
         have HRD := rest_drop HRB.out (k := 5) (by rw [digB_len]; omega) (by rw [digB_len])
         rw [digB_drop, show 5 + m' - 5 = m' by omega] at HRD
         exact ⟨⟨j + 1, m', by omega, Lib.hid HRD, HO3, HL3⟩, by simp [lenV]⟩
     · have hmt2 : m < 5 := by omega
       have hdm : decide (((5 : Int)) ≤ (m : Int)) = false := by simp; omega
       have hNl := HNN.out
       have hnm : 8 * l.length % 5 = m := by omega
       have hnj : 8 * l.length / 5 = j := by omega
       have HSS := Lib.hid (any_of (n := 256) HS.out)
       have HVV := Lib.hid HV.out
       have HLw : Hid (GL [] w wr) := Lib.hid (gl_step HLa.out HL.out si_)
       have hwl : w.heap.size ≤ wa.heap.size := HL.out.size
       clear HL
       by_cases hm0 : m = 0
       · subst hm0
         have hsome : bitsP 8 5 true l = some (digB 32 j (V / 2 ^ 0)) := by
          unfold bitsP
          rw [if_neg (by rw [show (2 ^ 8 : Nat) = 256 by decide, HSS.out]; simp), if_pos rfl, if_pos hnm, hnj, show (2 ^ 8 : Nat) = 256 by decide, ← HVV.out, Nat.pow_zero, Nat.div_one]
         go_wp2_with fail
         exact bodyPost_ret (v := .tuple #[.slice oa j oc, .int .i64 0]) (by simp [results, Tryz.results90, go_sem]) rfl ⟨bitsO_some hsome (own_mono HOo.out hwl), gl_to_below HLw.out⟩
       · have hm1 : 0 < m := by omega
         have hd0 : decide ((0 : Int) < (m : Int)) = true := by simp; omega
         have HTT := Lib.hid (hrt (fun e => by have := congrArg List.length e; rw [digB_len] at this; first | (simp at this; done) | (simp at this; omega)))
         rw [digB_len] at HTT
         have hg5 := hgl om_
         have HBK : Hid (∀ b, (Value.slice oa j oc).ownBlock = some b → b ≠ g) := Lib.hid (fun b hb => by have := ownB_blk HOo.out b hb; omega)
         go_wp2_with fail
         go_loopw [10] (fun rv wr => ∃ k g' : Nat, m + k ≤ 5 ∧ w.heap.size ≤ g' ∧ Hid (TailAt g' rv (digB 2 m V ++ List.replicate k 0) wr) ∧ Hid (∀ b, (Value.slice oa j oc).ownBlock = some b → b ≠ g') ∧ Hid (OwnB wa.heap.size (.slice oa j oc) (digB 32 j (V / 2 ^ m)) wr) ∧ Hid (GL [] w wr)) (fun rv _ => 5 - lenV rv)
         case atStart => exact ⟨0, g, by omega, hgw, Lib.hid (by rw [List.replicate_zero, List.append_nil]; exact HTT.out), HBK, HOo, HLw⟩
         case round =>
          obtain ⟨k, g', hmk, hgw', HT, HBK', HOo', HLw'⟩ := hrel
          obtain ⟨off', c', hrv⟩ := tail_form HT.out
          subst hrv
          have hlk : (digB 2 m V ++ List.replicate k 0).length = m + k := by rw [List.length_append, digB_len, List.length_replicate]
          rw [hlk] at HT ⊢
          by_cases hlt : m + k < 5
          · have hdl : decide (((m + k : Nat) : Int) < 5) = true := by rw [decide_eq_true_eq]; omega
            obtain ⟨g3, off3, c3, w3, hrun3, ht3, hgg, hl3⟩ := app_tail g' wr _ _ 0 0 rfl HT.out (by rw [hlk]; omega)
            rw [hlk] at hrun3 ht3
            have HRUN := Lib.hid hrun3
            have HT3 : Hid (TailAt g3 (.slice (some ⟨g3, off3, none⟩) (m + k + 1) c3) (digB 2 m V ++ List.replicate (k + 1) 0) w3) := Lib.hid (by rw [List.replicate_succ', ← List.append_assoc]; exact ht3)
            have hg3w : w.heap.size ≤ g3 := by
             have := HLw'.out.size
             rcases hgg with h | h <;> omega
            have HBK3 : Hid (∀ b, (Value.slice oa j oc).ownBlock = some b → b ≠ g3) := Lib.hid (fun b hb => by
             rcases hgg with h | h
             · rw [h]; exact HBK'.out b hb
             · have := (ownB_blk HOo'.out b hb).2
               omega)
            have HO3 : Hid (OwnB wa.heap.size (.slice oa j oc) (digB 32 j (V / 2 ^ m)) w3) := Lib.hid (ownB_gl HOo'.out hl3 (fun r hr hb => HBK'.out r hb (by simpa using hr)))
            have HL3 : Hid (GL [] w w3) := Lib.hid (gl_step hl3 HLw'.out (fun r hr => .inr (by obtain rfl : r = g' := (by simpa using hr); exact hgw')))
            clear hrun3 ht3 hl3 HSS HVV
            go_wp2_with (at_builtin; refine wpList_append_run _ rfl (.tmp 82) (.tmp 83) 47 47 rfl _ _ (by simp [Act.eval, Act.put]) (by simp [Act.eval, Act.put]) HRUN.out ?_)
            exact ⟨⟨k + 1, g3, by omega, hg3w, HT3, HBK3, HO3, HL3⟩, by simp [lenV]; omega⟩
          · have hmk2 : m + k = 5 := by omega
            have hdl : decide (((m + k : Nat) : Int) < 5) = false := by rw [decide_eq_false_iff_not]; omega
            have hkt : k = 5 - m := by omega
            have hz := digB_zeros m V k
            have HNUM := Lib.hid (ref6Number (digB 2 m V ++ List.replicate k 0) (by rw [hlk]; omega) (by rw [hz]; exact digB2_lt _ _) _ wr (tail_in HT.out))
            rw [hz, valB_digB_mod om_ om_, hmk2, hkt] at HNUM
            have hmod : V * 2 ^ (5 - m) % 2 ^ 5 < 256 := Nat.lt_of_lt_of_le (Nat.mod_lt _ om_) om_
            have hX : (((V * 2 ^ (5 - m) % 2 ^ 5 : Nat)) : Int) = (UInt8.ofNat (V * 2 ^ (5 - m) % 2 ^ 5)).toNat := by rw [UInt8.toNat_ofNat']; omega
            obtain ⟨g3, c3, w3, hrun3, hown3, hl3⟩ := app_byte w wr _ _ (UInt8.ofNat (V * 2 ^ (5 - m) % 2 ^ 5)) _ hX (own_mono HOo'.out hwl) (by rw [digB_len]; omega) HLw'.out
            have hpl := pad_last 5 j V m om_
            rw [digB_len] at hrun3 hown3
            rw [show (32 : Nat) = 2 ^ 5 by decide, ← hpl] at hown3
            have hsome : bitsP 8 5 true l = some (digB (2 ^ 5) (j + 1) (V * 2 ^ (5 - m))) := by
             unfold bitsP
             rw [if_neg (by rw [show (2 ^ 8 : Nat) = 256 by decide, HSS.out]; simp), if_pos rfl, if_neg (by rw [hnm]; exact hm0), hnj, hnm, show (2 ^ 8 : Nat) = 256 by decide, ← HVV.out]
            have HRUN := Lib.hid hrun3
            have HSO := Lib.hid hsome
            have HO3 := Lib.hid hown3
            have HL3 := Lib.hid hl3
            clear hrun3 hown3 hl3 hX hpl hsome hz
            generalize V * 2 ^ (5 - m) % 2 ^ 5 = XX at *
            rw [hmk2]
            go_wp2_with (first | (go_at_call 135; refine HNUM.out.mono ?_; rintro e w9 ⟨rfl, hw9⟩; subst hw9) | (at_builtin; refine wpList_append_run _ rfl (.tmp 85) (.tmp 88) 47 47 rfl _ _ (by simp [Act.eval, Act.put]) (by simp [Act.eval, Act.put]) HRUN.out ?_))
            exact bodyPost_ret (v := .tuple #[.slice (some ⟨g3, 0, none⟩) (j + 1) c3, .int .i64 0]) (by simp [results, Tryz.results90, go_sem]) rfl ⟨bitsO_some HSO.out HO3.out, gl_to_below HL3.out⟩
theorem sixW_take (C j : Nat) (h : j < 6) : (sixW C).take (j + 1) = (sixW C).take j ++ [UInt8.ofNat (C / 2 ^ (25 - 5 * j) % 32)] := by
 rcases (by omega : j = 0 ∨ j = 1 ∨ j = 2 ∨ j = 3 ∨ j = 4 ∨ j = 5) with rfl | rfl | rfl | rfl | rfl | rfl <;> simp [sixW]
theorem any31 {l : List UInt8} (h : ∀ j, (hj : j < l.length) → (l[j]).toNat ≤ 31) : l.any (fun x => decide (31 < x.toNat)) = false := by
 rw [List.any_eq_false]
 intro x hx
 obtain ⟨j, hj, rfl⟩ := List.getElem_of_mem hx
 have := h j hj
 simp
 omega
theorem ref6Encode (h ws : List UInt8) (bv : Value) (w : World) (hin : InAt bv ws w) (hhl : h.length ≤ 1000000) (hwl : ws.length ≤ 1000000) :
  Calls Tryz.prog 50 #[.string (bs h), bv] w fun e w' => e = .returned (.tuple #[.string (bs (encR h ws)), .int .i64 (encE h ws)]) ∧ Below w.heap.size w w' := by
 obtain ⟨ba, bc, hbv, hbc, hb0⟩ := inAt_form hin
 subst hbv
 have HIN := Lib.hid hin
 have HB0 := Lib.hid hb0
 clear hin hb0
 cases hh : hrpOk h with
 | false =>
   have HE : Hid (encE h ws = 60 ∧ encR h ws = []) := Lib.hid (by
    have : encE h ws = 60 := by unfold encE; rw [if_pos hh]
    exact ⟨this, by unfold encR; rw [this]; rfl⟩)
   have HH := Lib.hid hh
   clear hh
   go_enter Tryz.func50, Tryz.ntmps50
   go_wp2_with fail
   refine (ref6Head h hhl w).mono ?_
   rintro e w1 ⟨rfl, rfl⟩
   rw [HH.out]
   go_wp2_with fail
   exact bodyPost_ret (v := .tuple #[.string (bs []), .int .i64 60]) (by simp [results, Tryz.results50, go_sem]) rfl ⟨by rw [HE.out.1, HE.out.2], bl_⟩
 | true =>
   have HH := Lib.hid hh
   have hl83 : h.length ≤ 83 := by
    unfold hrpOk at hh
    simp only [Bool.and_eq_true, decide_eq_true_eq] at hh
    exact hh.1.2
   clear hh
   go_enter Tryz.func50, Tryz.ntmps50
   go_wp2_with fail
   refine (ref6Head h hhl w).mono ?_
   rintro e w1 ⟨rfl, rfl⟩
   rw [HH.out]
   go_wp2_with fail
   go_loopw [6] (fun iv wr => ∃ i : Nat, i ≤ ws.length ∧ iv = .int .i64 i ∧ Hid (∀ j, (hj : j < ws.length) → j < i → (ws[j]).toNat ≤ 31) ∧ Hid (wr = w1)) (fun iv _ => ws.length - (intOf iv).toNat)
   case atStart => exact ⟨0, by omega, rfl, Lib.hid (fun j _ h => by omega), Lib.hid rfl⟩
   case round =>
    obtain ⟨i, hi, rfl, HA, hw⟩ := hrel
    have hw2 := hw.out
    subst hw2
    by_cases hlt : i < ws.length
    · obtain ⟨G, o, hba, hbt⟩ := HB0.out (by intro e; subst e; simp at hlt)
      subst hba
      have fc : wr.cell? ⟨G, o + i, none⟩ = some (.int .u8 (ws.getD i 0).toNat) := hbt.2 i hlt
      rw [getD_at hlt] at fc
      have hi0 : (0 : Int) ≤ i := by omega
      have hi1 : (i : Int) < ws.length := by omega
      have hlb : decide ((i : Int) < ws.length) = true := by simp; omega
      by_cases hbig : 31 < (ws[i]).toNat
      · have HE : Hid (encE h ws = 60 ∧ encR h ws = []) := Lib.hid (by
         have : encE h ws = 60 := by
          unfold encE
          rw [if_neg (by rw [HH.out]; simp), if_pos]
          rw [List.any_eq_true]
          exact ⟨ws[i], List.getElem_mem hlt, by simpa using hbig⟩
         exact ⟨this, by unfold encR; rw [this]; rfl⟩)
        generalize ws[i].toNat = x at *
        have hbb : decide ((31 : Int) < x) = true := by simp; omega
        clear HA
        go_wp2_with fail
        exact bodyPost_ret (v := .tuple #[.string (bs []), .int .i64 60]) (by simp [results, Tryz.results50, go_sem]) rfl ⟨by rw [HE.out.1, HE.out.2], bl_⟩
      · have HA2 : Hid (∀ j, (hj : j < ws.length) → j < i + 1 → (ws[j]).toNat ≤ 31) := Lib.hid (fun j hj h => by
         by_cases e : j = i
         · subst e; omega
         · exact HA.out j hj om_)
        clear HA
        generalize ws[i].toNat = x at *
        have hbb : decide ((31 : Int) < x) = false := by simp; omega
        go_wp2_with fail
        exact ⟨⟨i + 1, by omega, by go_num, HA2, by first | exact Lib.hid rfl | exact Lib.hid trivial⟩, by simp [intOf]; omega⟩
    · obtain rfl : i = ws.length := by omega
      have hlb : decide (((ws.length : Nat) : Int) < ws.length) = false := by simp
      have HA31 : Hid (∀ j, (hj : j < ws.length) → (ws[j]).toNat ≤ 31) := Lib.hid (fun j hj => HA.out j hj hj)
      have HANY := Lib.hid (any31 HA31.out)
      clear hlt HA
      by_cases hbig : 32768 < h.length + 1 + ws.length + 6
      · have HE : Hid (encE h ws = 3 ∧ encR h ws = []) := Lib.hid (by
         have : encE h ws = 3 := by
          unfold encE
          rw [if_neg (by rw [HH.out]; simp), if_neg (by rw [HANY.out]; simp), if_pos om_]
         exact ⟨this, by unfold encR; rw [this]; rfl⟩)
        have hbb : decide ((32768 : Int) < (h.length : Int) + 1 + ws.length + 6) = true := by simp; omega
        go_wp2_with fail
        exact bodyPost_ret (v := .tuple #[.string (bs []), .int .i64 3]) (by simp [results, Tryz.results50, go_sem]) rfl ⟨by rw [HE.out.1, HE.out.2], bl_⟩
      · have HE : Hid (encE h ws = 0 ∧ encR h ws = encT h ws) := Lib.hid (by
         have : encE h ws = 0 := by
          unfold encE
          rw [if_neg (by rw [HH.out]; simp), if_neg (by rw [HANY.out]; simp), if_neg om_]
         exact ⟨this, by unfold encR; rw [this]; rfl⟩)
        have hbb : decide ((32768 : Int) < (h.length : Int) + 1 + ws.length + 6) = false := by simp; omega
        go_wp2_with fail
        refine (ref6Heads h hhl wr).mono ?_
        rintro e w2 ⟨hv, rfl, hho, hb2⟩
        obtain ⟨had, hac, hhv⟩ := ownB_form hho
        subst hhv
        have hHl : (hrpW h).length = 2 * h.length + 1 := by simp [hrpW]; omega
        have hg2 : GL [] wr w2 := gl_below hb2 (gl_refl _ _)
        obtain ⟨ad3, c3, w3, hrun3, hown3, hgr3⟩ := run_appR wr.heap.size _ (.slice ba ws.length bc) (hrpW h) ws w2 hho (inAt_gl HIN.out hg2) om_ hg2.size
        have hg3 : GL [] wr w3 := gl_step hgr3 hg2 (fun r hr => .inr (ownB_blk hho r (by simpa using hr)).1)
        have hlA : (hrpW h ++ ws).length = (hrpW h).length + ws.length := List.length_append
        rw [← hlA] at hown3
        have hoz : OwnB wr.heap.size (.slice ad3 (hrpW h ++ ws).length c3) (hrpW h ++ ws) (w3.alloc (.cells #[.int .u8 0, .int .u8 0, .int .u8 0, .int .u8 0, .int .u8 0, .int .u8 0] 5)) := own_alloc hown3 _
        obtain ⟨g4, c4, w4, hrun4, hown4, hgr4, _, _⟩ := run_appB wr.heap.size _ (hrpW h ++ ws) zeros6 ⟨w3.heap.size, 0, none⟩ 6 (w3.alloc (.cells #[.int .u8 0, .int .u8 0, .int .u8 0, .int .u8 0, .int .u8 0, .int .u8 0] 5)) hoz (by simp [zeros6]) (fun j hj => by
         have hj6 : j < 6 := hj
         have e : (⟨w3.heap.size, 0, none⟩ : Addr).add j = ⟨w3.heap.size, j, none⟩ := by unfold Addr.add; split <;> simp_all
         rw [e, blk_cell (blk_new w3 _)]
         rcases (by omega : j = 0 ∨ j = 1 ∨ j = 2 ∨ j = 3 ∨ j = 4 ∨ j = 5) with rfl | rfl | rfl | rfl | rfl | rfl <;> rfl) (by rw [hlA]; simp [zeros6]; omega) (by simp; have := hg3.size; omega)
        have hg4 : GL [] wr w4 := gl_grown hgr4 (gl_alloc hg3 _) (fun r hr => .inr (ownB_blk hown3 r hr).1)
        have HRUN3 := Lib.hid hrun3
        have hz6 : zeros6.length = 6 := rfl
        rw [hlA, hz6] at hrun4
        have HRUN4 := Lib.hid hrun4
        rw [← hlA] at hrun3
        have hin4 := (ownB_in hown4).1
        rw [hlA, hz6] at hin4
        have hP : poly 1 (hrpW h ++ ws ++ zeros6) = poly (headS h) (ws ++ zeros6) := by rw [List.append_assoc, poly_append]; rfl
        have HCK := Lib.hid (ref6Check (hrpW h ++ ws ++ zeros6) (by rw [List.length_append, hlA]; simp [zeros6]; omega) _ w4 hin4)
        rw [hP] at HCK
        have hpl : poly (headS h) (ws ++ zeros6) < 2 ^ 30 := poly_lt _ _ (headS_lt h)
        have hxo := xor_u32 (poly (headS h) (ws ++ zeros6)) 1 om_ om_
        have HC : Hid (fitC h ws = poly (headS h) (ws ++ zeros6) ^^^ 1) := Lib.hid rfl
        have hCl := fitC_lt h ws
        rw [HC.out] at hCl
        have HL4 := Lib.hid hg4
        have HT0 : Hid (encT h ws = (h ++ [49]) ++ (ws.map fun x : UInt8 => letter x.toNat) ++ (sixW (fitC h ws)).map fun x : UInt8 => letter x.toNat) := Lib.hid (by unfold encT; simp)
        rw [HC.out] at HT0
        have hcat : ¬ (9223372036854775807 < h.length + 1) := by omega
        have hxo1 : bits .xor .u32 ((poly (headS h) (ws ++ zeros6) : Nat) : Int) 1 = ((poly (headS h) (ws ++ zeros6) ^^^ 1 : Nat) : Int) := hxo
        generalize poly (headS h) (ws ++ zeros6) = P at *
        generalize P ^^^ 1 = C at *
        generalize hrpW h = HW at *
        clear hho hb2 hg2 hrun3 hown3 hgr3 hg3 hoz hrun4 hown4 hgr4 hg4 hin4 hP hHl hlA hz6 hxo HC
        go_wp2_with (first | ((with_reducible (at_builtin; refine wpList_append_run _ rfl (.tmp 36) (.tmp 37) 47 47 rfl _ _ ?ha ?hb HRUN3.out ?_)); (case ha => simp [Act.eval, Act.put]); (case hb => simp [Act.eval, Act.put])) | ((with_reducible (at_builtin; refine wpList_append_run _ rfl (.tmp 39) (.tmp 40) 47 47 rfl _ _ ?ha ?hb HRUN4.out ?_)); (case ha => simp [Act.eval, Act.put]); (case hb => simp [Act.eval, Act.put])) | (go_at_call 93; refine HCK.out.mono ?_; rintro e w5 ⟨rfl, hb5⟩; obtain ⟨cc6, w6, hconv, hcv6, hg6⟩ := run_conv 9 Tryz.underlying9 (h ++ [49]) w5 so_))
        have HL6 : Hid (GL [] wr w6) := Lib.hid (gl_step hg6 (gl_below hb5 HL4.out) si_)
        obtain ⟨gq, hgq, htl⟩ := cv_tail hcv6
        have hgq2 : wr.heap.size ≤ gq := by
         have : gq = w5.heap.size := by simpa [Value.ownBlock] using hgq.symm
         have h5 := (gl_below hb5 HL4.out).size
         omega
        have hl49 : (h ++ [49]).length = h.length + 1 := by simp
        rw [hl49] at htl
        have HTL := Lib.hid htl
        clear hconv hcv6 hg6 hb5 HL4 hgq htl HRUN3 HRUN4 HCK hxo1
        generalize hW0 : wr = W0 at *
        have HW0 := Lib.hid hW0
        clear hW0
        go_loopw [9, 10] (fun v iv wr => ∃ i g : Nat, i ≤ ws.length ∧ iv = .int .i64 (i : Int) ∧ W0.heap.size ≤ g ∧ Hid (TailAt g v ((h ++ [49]) ++ (ws.take i).map fun x : UInt8 => letter x.toNat) wr) ∧ Hid (GL [] W0 wr)) (fun _ iv _ => ws.length - (intOf iv).toNat)
        case atStart => exact ⟨0, gq, by omega, rfl, hgq2, Lib.hid (by rw [List.take_zero, List.map_nil, List.append_nil]; exact HTL.out), HL6⟩
        case round =>
         obtain ⟨i, g, hi, rfl, hg, HT, HL⟩ := hrel
         obtain ⟨off, c, hv⟩ := tail_form HT.out
         subst hv
         have hlr : ((h ++ [49]) ++ (ws.take i).map fun x : UInt8 => letter x.toNat).length = h.length + 1 + i := by rw [List.length_append, List.length_append, List.length_map, List.length_take]; simp; omega
         rw [hlr] at HT ⊢
         by_cases hlt : i < ws.length
         · obtain ⟨G, o, hba, hbt⟩ := HB0.out (by intro e; subst e; simp at hlt)
           subst hba
           have fc : wr.cell? ⟨G, o + i, none⟩ = some (.int .u8 (ws.getD i 0).toNat) := cell_gl0 hbt.1 (hbt.2 i hlt) HL.out
           have hx31 : (ws.getD i 0).toNat < 32 := by rw [getD_at hlt]; have := HA31.out i hlt; omega
           have HMT := Lib.hid (map_take_succ (fun x : UInt8 => letter x.toNat) ws i hlt)
           rw [← getD_at hlt] at HMT
           have hi0 : (0 : Int) ≤ i := by omega
           have hi1 : (i : Int) < ws.length := by omega
           have hlb2 : decide ((i : Int) < ws.length) = true := by simp; omega
           generalize (ws.getD i 0).toNat = x at *
           have hlm : ∀ W, (Instr.index 9 (.string (bs [113, 112, 122, 114, 121, 57, 120, 56, 103, 102, 50, 116, 118, 100, 119, 48, 115, 51, 106, 110, 53, 52, 107, 104, 99, 101, 54, 109, 117, 97, 55, 108])) (.int .u8 (x : Int))).run Tryz.prog W = .ok (.int .u8 ((letter x).toNat : Nat)) W := fun W => index_strK W .u8 letB x hx31
           obtain ⟨g3, off3, c3, w9, hrun9, ht9, hgg, hl9⟩ := app_tail g wr _ _ (letter x) _ rfl HT.out (by rw [hlr]; omega)
           rw [hlr] at hrun9 ht9
           have HRUN := Lib.hid hrun9
           have HT9 : Hid (TailAt g3 (.slice (some ⟨g3, off3, none⟩) (h.length + 1 + i + 1) c3) ((h ++ [49]) ++ (ws.take (i + 1)).map fun x : UInt8 => letter x.toNat) w9) := Lib.hid (by rw [HMT.out, ← List.append_assoc]; exact ht9)
           have hg9 : W0.heap.size ≤ g3 := by
            have := HL.out.size
            rcases hgg with h | h <;> omega
           have HL9 : Hid (GL [] W0 w9) := Lib.hid (gl_step hl9 HL.out (fun r hr => .inr (by obtain rfl : r = g := (by simpa using hr); exact hg)))
           clear hrun9 ht9 hl9 hgg HMT HL6 HTL
           go_wp2_with (at_builtin; refine wpList_append_run _ rfl (.tmp 54) (.tmp 60) 47 47 rfl _ _ (by simp [Act.eval, Act.put]) (by simp [Act.eval, Act.put]) HRUN.out ?_)
           exact ⟨⟨i + 1, g3, by omega, by go_num, hg9, HT9, HL9⟩, by simp [intOf]; omega⟩
         · obtain rfl : i = ws.length := by omega
           have hlb2 : decide (((ws.length : Nat) : Int) < ws.length) = false := by simp
           rw [List.take_length] at HT
           generalize hPR : (h ++ [49]) ++ (ws.map fun x : UInt8 => letter x.toNat) = PR at *
           have hPl : PR.length = h.length + 1 + ws.length := by rw [← hPR]; simp; omega
           have HPL := Lib.hid hPl
           clear hlt HL6 HTL hPR hlr hPl
           go_wp2_with fail
           go_loopw [9, 11] (fun v iv wr => ∃ j g : Nat, j ≤ 6 ∧ iv = .int .i64 (25 - 5 * (j : Int)) ∧ W0.heap.size ≤ g ∧ Hid (TailAt g v (PR ++ ((sixW C).take j).map fun x : UInt8 => letter x.toNat) wr) ∧ Hid (GL [] W0 wr)) (fun _ iv _ => (intOf iv + 5).toNat)
           case atStart => exact ⟨0, g, by omega, rfl, hg, Lib.hid (by rw [List.take_zero, List.map_nil, List.append_nil]; exact HT.out), HL⟩
           case round =>
            obtain ⟨j, g, hj, rfl, hg, HT, HL⟩ := hrel
            obtain ⟨off, c, hv⟩ := tail_form HT.out
            subst hv
            have hlr : (PR ++ ((sixW C).take j).map fun x : UInt8 => letter x.toNat).length = h.length + 1 + ws.length + j := by rw [List.length_append, HPL.out, List.length_map, List.length_take]; simp [sixW]; omega
            rw [hlr] at HT ⊢
            by_cases hlt : j < 6
            · obtain ⟨K, hK⟩ : ∃ K : Nat, K = 25 - 5 * j := ⟨_, rfl⟩
              have hst := sixW_take C j hlt
              rw [← hK] at hst
              rw [show (25 - 5 * (j : Int)) = (K : Int) by omega]
              have hK0 : (0 : Int) ≤ K := by omega
              have hKd : decide ((0 : Int) ≤ K) = true := by simp
              have hn : C / 2 ^ K % 32 < 32 := Nat.mod_lt _ om_
              have hand := and31u C (2 ^ K) (2 ^ K) (by push_cast; rfl) om_
              have hu8 : (UInt8.ofNat (C / 2 ^ K % 32)).toNat = C / 2 ^ K % 32 := by rw [UInt8.toNat_ofNat']; omega
              have HMT : Hid (((sixW C).take (j + 1)).map (fun x : UInt8 => letter x.toNat) = ((sixW C).take j).map (fun x : UInt8 => letter x.toNat) ++ [letter (C / 2 ^ K % 32)]) := Lib.hid (by rw [hst, List.map_append, List.map_cons, List.map_nil, hu8])
              generalize C / 2 ^ K % 32 = n at *
              have hlm : ∀ W, (Instr.index 9 (.string (bs [113, 112, 122, 114, 121, 57, 120, 56, 103, 102, 50, 116, 118, 100, 119, 48, 115, 51, 106, 110, 53, 52, 107, 104, 99, 101, 54, 109, 117, 97, 55, 108])) (.int .u32 (n : Int))).run Tryz.prog W = .ok (.int .u8 ((letter n).toNat : Nat)) W := fun W => index_strK W .u32 letB n hn
              obtain ⟨g3, off3, c3, w9, hrun9, ht9, hgg, hl9⟩ := app_tail g wr _ _ (letter n) _ rfl HT.out (by rw [hlr]; omega)
              rw [hlr] at hrun9 ht9
              have HRUN := Lib.hid hrun9
              have HT9 : Hid (TailAt g3 (.slice (some ⟨g3, off3, none⟩) (h.length + 1 + ws.length + j + 1) c3) (PR ++ ((sixW C).take (j + 1)).map fun x : UInt8 => letter x.toNat) w9) := Lib.hid (by rw [HMT.out, ← List.append_assoc]; exact ht9)
              have hg9 : W0.heap.size ≤ g3 := by
               have := HL.out.size
               rcases hgg with h | h <;> omega
              have HL9 : Hid (GL [] W0 w9) := Lib.hid (gl_step hl9 HL.out (fun r hr => .inr (by obtain rfl : r = g := (by simpa using hr); exact hg)))
              have HK := Lib.hid hK
              have hK9 : K ≤ 25 := by omega
              clear hrun9 ht9 hl9 hgg HMT hst hu8 hK
              go_wp2_with (at_builtin; refine wpList_append_run _ rfl (.tmp 66) (.tmp 72) 47 47 rfl _ _ (by simp [Act.eval, Act.put]) (by simp [Act.eval, Act.put]) HRUN.out ?_)
              exact ⟨⟨j + 1, g3, by omega, by have := HK.out; go_num, hg9, HT9, HL9⟩, by have := HK.out; first | (simp [intOf]; done) | (simp [intOf]; omega)⟩
            · obtain rfl : j = 6 := by omega
              rw [List.take_of_length_le (by simp [sixW]), ← HT0.out] at HT
              have hbk := run_back 9 Tryz.underlying9 _ _ _ (tail_in HT.out)
              clear hlt
              go_wp2_with fail
              exact bodyPost_ret (v := .tuple #[.string (bs (encT h ws)), .int .i64 0]) (by simp [results, Tryz.results50, go_sem]) rfl ⟨by rw [HE.out.1, HE.out.2], by rw [HW0.out]; exact gl_to_below HL.out⟩
theorem ref7Num (n : Nat) (w : World) (hn : n ≤ 4611686018427387903) :
  Calls Tryz.prog 77 #[.int .i64 n] w fun e w' => ∃ ad c, e = .returned (.slice ad (numW n).length c) ∧ OwnB w.heap.size (.slice ad (numW n).length c) (numW n) w' ∧ Below w.heap.size w w' := by
 induction n using Nat.strongRecOn generalizing w with
 | ind n ih =>
   by_cases h0 : n = 0
   · subst h0
     have HE := Lib.hid numW_zero
     go_enter Tryz.func77, Tryz.ntmps77
     go_wp2_with fail
     exact bodyPost_ret (v := .slice none 0 0) (by simp [results, Tryz.results77, go_sem]) rfl ⟨none, 0, by rw [HE.out]; rfl, by rw [HE.out]; exact ownB_nil _ _, bl_⟩
   · have hpos : 0 < n := by omega
     have hz : ((n : Int) == 0) = false := by simp; omega
     have hp1 : (0 : Int) < n := by omega
     have HE := Lib.hid (numW_pos hpos)
     have HS := Lib.hid (numW_short (n / 32) om_)
     have HI := Lib.hid (fun w => ih (n / 32) om_ w om_)
     have hn2 : (n : Int) ≤ 4611686018427387903 := by omega
     clear ih h0
     go_enter Tryz.func77, Tryz.ntmps77
     go_wp2_with fail
     refine (show Calls Tryz.prog 77 #[.int .i64 ((n / 32 : Nat) : Int)] w _ from HI.out w).mono ?_
     rintro e w1 ⟨ad, c, rfl, hown, hb1⟩
     have hx8 : ((n : Int) % 32) = ((UInt8.ofNat (n % 32)).toNat : Nat) := by rw [UInt8.toNat_ofNat']; omega
     obtain ⟨g, cap, w2, hrun, hown2, hgr, _, _⟩ := run_appB1 w.heap.size (.slice ad (numW (n / 32)).length c) _ (UInt8.ofNat (n % 32)) ((n : Int) % 32) hx8 w1 _ (.inr rfl) hown (by have := HS.out; omega) hb1.size
     have HL2 : Hid (GL [] w w2) := Lib.hid (gl_step hgr (gl_below hb1 (gl_refl _ _)) (fun r hr => .inr (ownB_blk hown r (by simpa using hr)).1))
     have HRUN := Lib.hid hrun
     have HO2 := Lib.hid hown2
     have hlen : (numW n).length = (numW (n / 32)).length + 1 := by rw [HE.out]; simp
     have HLN := Lib.hid hlen
     clear hown hb1 hrun hown2 hgr hx8 hlen
     go_wp2_with (at_builtin; refine wpList_append_run _ rfl (.tmp 9) (.tmp 13) 47 47 rfl _ _ (by simp [Act.eval, Act.put]) (by simp [Act.eval, Act.put]) HRUN.out ?_)
     exact bodyPost_ret (v := .slice (some ⟨g, 0, none⟩) ((numW (n / 32)).length + 1) cap) (by simp [results, Tryz.results77, go_sem]) rfl ⟨some ⟨g, 0, none⟩, cap, by rw [HLN.out], by rw [HLN.out, HE.out]; exact HO2.out, gl_to_below HL2.out⟩
theorem ref7Text (s : List UInt8) (hs : s.length ≤ 100000) (w : World) :
  Calls Tryz.prog 49 #[.string (bs s)] w fun e w' => ∃ ad c, e = .returned (.slice ad (textW s).length c) ∧ OwnB w.heap.size (.slice ad (textW s).length c) (textW s) w' ∧ Below w.heap.size w w' := by
 obtain ⟨c, w1, hcv, hin, hg⟩ := run_conv 9 Tryz.underlying9 s w om_
 have HIN := Lib.hid (cvAt_in hin)
 have HG := Lib.hid hg
 have HB := Lib.hid (bits85 s)
 clear hin hg
 go_enter Tryz.func49, Tryz.ntmps49
 go_wp2_with fail
 refine (ref6Bits85 s _ _ HIN.out om_).mono ?_
 rintro e w2 ⟨he, hb⟩
 rw [HB.out] at he
 obtain ⟨ad, c2, rfl, hown⟩ := he
 have HO := Lib.hid (own_base hown HG.out.size)
 have HL : Hid (GL [] w w2) := Lib.hid (gl_below hb HG.out)
 clear hown hb
 go_wp2_with fail
 exact bodyPost_ret (v := .slice ad (textW s).length c2) (by simp [results, Tryz.results49, go_sem]) rfl ⟨ad, c2, rfl, HO.out, gl_to_below HL.out⟩
theorem ownB_three (lo : Nat) (w : World) (hlo : lo ≤ w.heap.size) (a b c : UInt8) (x y z : Int) (hx : x = a.toNat) (hy : y = b.toNat) (hz : z = c.toNat) :
  OwnB lo (.slice (some ⟨w.heap.size, 0, none⟩) 3 3) [a, b, c] (w.alloc (.cells #[.int .u8 x, .int .u8 y, .int .u8 z] 5)) := by
 subst hx hy hz
 exact ⟨rfl, .inr ⟨w.heap.size, 3, _, rfl, hlo, blk_new w _, by simp, by decide, rfl, rfl⟩⟩
theorem ref7Fld (lo2 : Nat) (tag : UInt8) (T : Int) (hT : T = tag.toNat) (o : List UInt8) (bv : Value) (w : World) (hb : OwnB lo2 bv o w) (hol : o.length ≤ 1023) :
  Calls Tryz.prog 48 #[.int .u8 T, bv] w fun e w' => ∃ ad c, e = .returned (.slice ad (fieldW tag o).length c) ∧ OwnB w.heap.size (.slice ad (fieldW tag o).length c) (fieldW tag o) w' ∧ Below w.heap.size w w' := by
 subst hT
 obtain ⟨ad2, c2, rfl⟩ := ownB_form hb
 have e1 : ((o.length : Int) / 32) = ((UInt8.ofNat (o.length / 32)).toNat : Nat) := by rw [UInt8.toNat_ofNat']; omega
 have e2 : ((o.length : Int) % 32) = ((UInt8.ofNat (o.length % 32)).toNat : Nat) := by rw [UInt8.toNat_ofNat']; omega
 have ho1 := ownB_three w.heap.size w (Nat.le_refl _) tag _ _ (tag.toNat : Nat) _ _ rfl e1 e2
 have hb2 := (ownB_in (own_alloc hb (.cells #[.int .u8 (tag.toNat : Nat), .int .u8 ((o.length : Int) / 32), .int .u8 ((o.length : Int) % 32)] 5))).1
 obtain ⟨ad3, cap3, w3, hr2, ho2, hg2⟩ := run_appR w.heap.size _ _ _ o _ ho1 hb2 so_ (by rw [World.size_alloc]; omega)
 have hw3 : GL [] w w3 := gl_step hg2 (gl_alloc (gl_refl _ _) _) (fun r hr => .inr (by
  have : r = w.heap.size := by simpa [Value.ownBlock] using hr
  omega))
 have hfin : [tag, UInt8.ofNat (o.length / 32), UInt8.ofNat (o.length % 32)] ++ o = fieldW tag o := by unfold fieldW; simp
 have hl3 : 3 + o.length = (fieldW tag o).length := by rw [← hfin]; simp; omega
 rw [hfin] at ho2
 rw [show ([tag, UInt8.ofNat (o.length / 32), UInt8.ofNat (o.length % 32)] : List UInt8).length = 3 from rfl, hl3] at hr2 ho2
 have HR2 := Lib.hid hr2
 have HO := Lib.hid ho2
 have HG := Lib.hid hw3
 have ho3 : (o.length : Int) ≤ 1023 := by omega
 clear hr2 ho2 hw3 hg2 hb2 ho1 hb hl3 hfin e1 e2
 go_enter Tryz.func48, Tryz.ntmps48
 go_wp2_with (((with_reducible (at_builtin; refine wpList_append_run _ rfl (.tmp 16) (.tmp 17) 47 47 rfl _ _ ?ha ?hb HR2.out ?_)); (case ha => simp [Act.eval, Act.put]); (case hb => simp [Act.eval, Act.put])))
 exact bodyPost_ret (v := .slice ad3 (fieldW tag o).length cap3) (by simp [results, Tryz.results48, go_sem]) rfl ⟨ad3, cap3, rfl, HO.out, gl_to_below HG.out⟩
theorem wd_app {w w2 w3 : World} {x : Inv} {l o : List UInt8} {v : Value} {ad3 : Option Addr} {c3 : Nat} (h : WdAt w x l v w2)
  (hg : GL v.ownBlock.toList w2 w3) (ho : OwnB w.heap.size (.slice ad3 (l ++ o).length c3) (l ++ o) w3) : WdAt w x (l ++ o) (.slice ad3 (l ++ o).length c3) w3 := by
 have hn : w.heap.size ∉ v.ownBlock.toList := by
  have := Ne.symm (own_ne h.own h.blk de_)
  simpa using this
 exact ⟨ho, blk_gl h.blk hg hn, gl_step hg h.gl (fun r hr => .inr (ownB_blk h.own r (by simpa using hr)).1)⟩
theorem ref7Words (x : Inv) (hm : mayI x = true) (w : World) :
  Calls Tryz.prog 40 #[invV x] w fun e w' => ∃ ad c, e = .returned (.slice ad (wordsI x).length c) ∧ OwnB w.heap.size (.slice ad (wordsI x).length c) (wordsI x) w' ∧ Below w.heap.size w w' := by
 obtain ⟨h1, h2, h3, h4, h5, h6, h7, h8, h9⟩ := may_facts hm
 have b1 : (textW x.hash).length ≤ 1023 := by rw [(textW_back x.hash).2.1]; omega
 have b2 : (textW x.payee).length ≤ 1023 := by rw [(textW_back x.payee).2.1]; omega
 have b3 : (textW x.memo).length ≤ 1023 := by rw [(textW_back x.memo).2.1]; omega
 have HW : Hid (wordsI x = digB 32 7 x.st.toNat ++ fieldW 1 (textW x.hash) ++ fieldW 19 (textW x.payee) ++ fieldW 13 (textW x.memo) ++ fieldW 6 (numW x.ex.toNat) ++ fieldW 24 (numW x.de.toNat)) := Lib.hid rfl
 obtain ⟨am, st, hash, payee, memo, ex, de, sig⟩ := x
 clear hm
 unfold invV
 simp only at HW h1 h2 h3 h4 h5 h6 h7 h8 h9 b1 b2 b3 ⊢
 obtain ⟨S, rfl⟩ : ∃ n : Nat, st = n := ⟨st.toNat, by omega⟩
 obtain ⟨E, rfl⟩ : ∃ n : Nat, ex = n := ⟨ex.toNat, by omega⟩
 obtain ⟨D, rfl⟩ : ∃ n : Nat, de = n := ⟨de.toNat, by omega⟩
 simp only [Int.toNat_natCast] at HW
 have hS : S < 34359738368 := by omega
 have hE : E < 34359738368 := by omega
 have hD : D < 2147483648 := by omega
 have n1 := numW_len 7 E om_
 have n2 := numW_len 7 D om_
 clear h4 h5 h6 h7 h8 h9
 go_enter Tryz.func40, Tryz.ntmps40
 go_wp2_with fail
 have HB0 : Hid (WdAt w ⟨am, S, hash, payee, memo, E, D, sig⟩ (digB 32 0 (S / 2 ^ (35 - 5 * 0))) (.slice none 0 0) (w.alloc (.cells #[.int .i64 am, .int .i64 S, .string (bs hash), .string (bs payee), .string (bs memo), .int .i64 E, .int .i64 D, .string (bs sig)] 31))) := Lib.hid ⟨ownB_nil _ _, blk_new _ _, gl_alloc (gl_refl _ _) _⟩
 go_loopw [3, 4] (fun wv iv wr => ∃ k : Nat, k ≤ 7 ∧ iv = .int .i64 (30 - 5 * (k : Int)) ∧ Hid (WdAt w ⟨am, S, hash, payee, memo, E, D, sig⟩ (digB 32 k (S / 2 ^ (35 - 5 * k))) wv wr)) (fun _ iv _ => (intOf iv + 10).toNat)
 case atStart => exact ⟨0, by omega, rfl, HB0⟩
 case round =>
  obtain ⟨k, hk, rfl, hwd⟩ := hrel
  obtain ⟨oa, oc, rfl⟩ := ownB_form hwd.out.own
  have hlk : (digB 32 k (S / 2 ^ (35 - 5 * k))).length = k := digB_len _ _ _
  have hfc := wd_cells hwd.out
  rcases (by omega : k = 0 ∨ k = 1 ∨ k = 2 ∨ k = 3 ∨ k = 4 ∨ k = 5 ∨ k = 6 ∨ k = 7) with rfl | rfl | rfl | rfl | rfl | rfl | rfl | rfl
  · have hst := dig_step S 0 om_
    have hx8 : ((S : Int) / 1073741824 % 32) = ((UInt8.ofNat (S / 2 ^ (35 - 5 * (0 + 1)) % 32)).toNat : Nat) := by rw [UInt8.toNat_ofNat', show 2 ^ (35 - 5 * (0 + 1)) = 1073741824 from rfl]; omega
    obtain ⟨g, cap, w2, hrun, hown2, hgr, _, _⟩ := run_appB1 w.heap.size _ _ (UInt8.ofNat (S / 2 ^ (35 - 5 * (0 + 1)) % 32)) ((S : Int) / 1073741824 % 32) hx8 wr _ (.inr rfl) hwd.out.own om_ hwd.out.gl.size
    rw [← hst] at hown2
    have HWD : Hid (WdAt w ⟨am, S, hash, payee, memo, E, D, sig⟩ (digB 32 (0 + 1) (S / 2 ^ (35 - 5 * (0 + 1)))) (.slice (some ⟨g, 0, none⟩) ((digB 32 0 (S / 2 ^ (35 - 5 * 0))).length + 1) cap) w2) := Lib.hid ⟨hown2, blk_gl hwd.out.blk hgr (by have := Ne.symm (own_ne hwd.out.own hwd.out.blk de_); simpa using this), gl_step hgr hwd.out.gl (fun r hr => .inr (ownB_blk hwd.out.own r (by simpa using hr)).1)⟩
    have hand := and31_div S 1073741824 1073741824 rfl om_
    have HRUN := Lib.hid hrun
    have f1 : wr.cell? ⟨w.heap.size, 1, none⟩ = some (.int .i64 S) := hfc 1
    have hi : (30 - 5 * ((0 : Nat) : Int)) = 30 := by omega
    rw [hi]
    simp only [hlk] at HRUN HWD ⊢
    clear hi hst hx8 hrun hown2 hgr hfc hlk HB0 hwd
    go_wp2_with (at_builtin; refine wpList_append_run _ rfl (.tmp 9) (.tmp 16) 47 47 rfl _ _ (by simp [Act.eval, Act.put]) (by simp [Act.eval, Act.put]) HRUN.out ?_)
    exact ⟨⟨1, by omega, by first | rfl | go_num, HWD⟩, by first | (simp [intOf]; done) | (simp [intOf]; omega)⟩
  · have hst := dig_step S 1 om_
    have hx8 : ((S : Int) / 33554432 % 32) = ((UInt8.ofNat (S / 2 ^ (35 - 5 * (1 + 1)) % 32)).toNat : Nat) := by rw [UInt8.toNat_ofNat', show 2 ^ (35 - 5 * (1 + 1)) = 33554432 from rfl]; omega
    obtain ⟨g, cap, w2, hrun, hown2, hgr, _, _⟩ := run_appB1 w.heap.size _ _ (UInt8.ofNat (S / 2 ^ (35 - 5 * (1 + 1)) % 32)) ((S : Int) / 33554432 % 32) hx8 wr _ (.inr rfl) hwd.out.own om_ hwd.out.gl.size
    rw [← hst] at hown2
    have HWD : Hid (WdAt w ⟨am, S, hash, payee, memo, E, D, sig⟩ (digB 32 (1 + 1) (S / 2 ^ (35 - 5 * (1 + 1)))) (.slice (some ⟨g, 0, none⟩) ((digB 32 1 (S / 2 ^ (35 - 5 * 1))).length + 1) cap) w2) := Lib.hid ⟨hown2, blk_gl hwd.out.blk hgr (by have := Ne.symm (own_ne hwd.out.own hwd.out.blk de_); simpa using this), gl_step hgr hwd.out.gl (fun r hr => .inr (ownB_blk hwd.out.own r (by simpa using hr)).1)⟩
    have hand := and31_div S 33554432 33554432 rfl om_
    have HRUN := Lib.hid hrun
    have f1 : wr.cell? ⟨w.heap.size, 1, none⟩ = some (.int .i64 S) := hfc 1
    have hi : (30 - 5 * ((1 : Nat) : Int)) = 25 := by omega
    rw [hi]
    simp only [hlk] at HRUN HWD ⊢
    clear hi hst hx8 hrun hown2 hgr hfc hlk HB0 hwd
    go_wp2_with (at_builtin; refine wpList_append_run _ rfl (.tmp 9) (.tmp 16) 47 47 rfl _ _ (by simp [Act.eval, Act.put]) (by simp [Act.eval, Act.put]) HRUN.out ?_)
    exact ⟨⟨2, by omega, by first | rfl | go_num, HWD⟩, by first | (simp [intOf]; done) | (simp [intOf]; omega)⟩
  · have hst := dig_step S 2 om_
    have hx8 : ((S : Int) / 1048576 % 32) = ((UInt8.ofNat (S / 2 ^ (35 - 5 * (2 + 1)) % 32)).toNat : Nat) := by rw [UInt8.toNat_ofNat', show 2 ^ (35 - 5 * (2 + 1)) = 1048576 from rfl]; omega
    obtain ⟨g, cap, w2, hrun, hown2, hgr, _, _⟩ := run_appB1 w.heap.size _ _ (UInt8.ofNat (S / 2 ^ (35 - 5 * (2 + 1)) % 32)) ((S : Int) / 1048576 % 32) hx8 wr _ (.inr rfl) hwd.out.own om_ hwd.out.gl.size
    rw [← hst] at hown2
    have HWD : Hid (WdAt w ⟨am, S, hash, payee, memo, E, D, sig⟩ (digB 32 (2 + 1) (S / 2 ^ (35 - 5 * (2 + 1)))) (.slice (some ⟨g, 0, none⟩) ((digB 32 2 (S / 2 ^ (35 - 5 * 2))).length + 1) cap) w2) := Lib.hid ⟨hown2, blk_gl hwd.out.blk hgr (by have := Ne.symm (own_ne hwd.out.own hwd.out.blk de_); simpa using this), gl_step hgr hwd.out.gl (fun r hr => .inr (ownB_blk hwd.out.own r (by simpa using hr)).1)⟩
    have hand := and31_div S 1048576 1048576 rfl om_
    have HRUN := Lib.hid hrun
    have f1 : wr.cell? ⟨w.heap.size, 1, none⟩ = some (.int .i64 S) := hfc 1
    have hi : (30 - 5 * ((2 : Nat) : Int)) = 20 := by omega
    rw [hi]
    simp only [hlk] at HRUN HWD ⊢
    clear hi hst hx8 hrun hown2 hgr hfc hlk HB0 hwd
    go_wp2_with (at_builtin; refine wpList_append_run _ rfl (.tmp 9) (.tmp 16) 47 47 rfl _ _ (by simp [Act.eval, Act.put]) (by simp [Act.eval, Act.put]) HRUN.out ?_)
    exact ⟨⟨3, by omega, by first | rfl | go_num, HWD⟩, by first | (simp [intOf]; done) | (simp [intOf]; omega)⟩
  · have hst := dig_step S 3 om_
    have hx8 : ((S : Int) / 32768 % 32) = ((UInt8.ofNat (S / 2 ^ (35 - 5 * (3 + 1)) % 32)).toNat : Nat) := by rw [UInt8.toNat_ofNat', show 2 ^ (35 - 5 * (3 + 1)) = 32768 from rfl]; omega
    obtain ⟨g, cap, w2, hrun, hown2, hgr, _, _⟩ := run_appB1 w.heap.size _ _ (UInt8.ofNat (S / 2 ^ (35 - 5 * (3 + 1)) % 32)) ((S : Int) / 32768 % 32) hx8 wr _ (.inr rfl) hwd.out.own om_ hwd.out.gl.size
    rw [← hst] at hown2
    have HWD : Hid (WdAt w ⟨am, S, hash, payee, memo, E, D, sig⟩ (digB 32 (3 + 1) (S / 2 ^ (35 - 5 * (3 + 1)))) (.slice (some ⟨g, 0, none⟩) ((digB 32 3 (S / 2 ^ (35 - 5 * 3))).length + 1) cap) w2) := Lib.hid ⟨hown2, blk_gl hwd.out.blk hgr (by have := Ne.symm (own_ne hwd.out.own hwd.out.blk de_); simpa using this), gl_step hgr hwd.out.gl (fun r hr => .inr (ownB_blk hwd.out.own r (by simpa using hr)).1)⟩
    have hand := and31_div S 32768 32768 rfl om_
    have HRUN := Lib.hid hrun
    have f1 : wr.cell? ⟨w.heap.size, 1, none⟩ = some (.int .i64 S) := hfc 1
    have hi : (30 - 5 * ((3 : Nat) : Int)) = 15 := by omega
    rw [hi]
    simp only [hlk] at HRUN HWD ⊢
    clear hi hst hx8 hrun hown2 hgr hfc hlk HB0 hwd
    go_wp2_with (at_builtin; refine wpList_append_run _ rfl (.tmp 9) (.tmp 16) 47 47 rfl _ _ (by simp [Act.eval, Act.put]) (by simp [Act.eval, Act.put]) HRUN.out ?_)
    exact ⟨⟨4, by omega, by first | rfl | go_num, HWD⟩, by first | (simp [intOf]; done) | (simp [intOf]; omega)⟩
  · have hst := dig_step S 4 om_
    have hx8 : ((S : Int) / 1024 % 32) = ((UInt8.ofNat (S / 2 ^ (35 - 5 * (4 + 1)) % 32)).toNat : Nat) := by rw [UInt8.toNat_ofNat', show 2 ^ (35 - 5 * (4 + 1)) = 1024 from rfl]; omega
    obtain ⟨g, cap, w2, hrun, hown2, hgr, _, _⟩ := run_appB1 w.heap.size _ _ (UInt8.ofNat (S / 2 ^ (35 - 5 * (4 + 1)) % 32)) ((S : Int) / 1024 % 32) hx8 wr _ (.inr rfl) hwd.out.own om_ hwd.out.gl.size
    rw [← hst] at hown2
    have HWD : Hid (WdAt w ⟨am, S, hash, payee, memo, E, D, sig⟩ (digB 32 (4 + 1) (S / 2 ^ (35 - 5 * (4 + 1)))) (.slice (some ⟨g, 0, none⟩) ((digB 32 4 (S / 2 ^ (35 - 5 * 4))).length + 1) cap) w2) := Lib.hid ⟨hown2, blk_gl hwd.out.blk hgr (by have := Ne.symm (own_ne hwd.out.own hwd.out.blk de_); simpa using this), gl_step hgr hwd.out.gl (fun r hr => .inr (ownB_blk hwd.out.own r (by simpa using hr)).1)⟩
    have hand := and31_div S 1024 1024 rfl om_
    have HRUN := Lib.hid hrun
    have f1 : wr.cell? ⟨w.heap.size, 1, none⟩ = some (.int .i64 S) := hfc 1
    have hi : (30 - 5 * ((4 : Nat) : Int)) = 10 := by omega
    rw [hi]
    simp only [hlk] at HRUN HWD ⊢
    clear hi hst hx8 hrun hown2 hgr hfc hlk HB0 hwd
    go_wp2_with (at_builtin; refine wpList_append_run _ rfl (.tmp 9) (.tmp 16) 47 47 rfl _ _ (by simp [Act.eval, Act.put]) (by simp [Act.eval, Act.put]) HRUN.out ?_)
    exact ⟨⟨5, by omega, by first | rfl | go_num, HWD⟩, by first | (simp [intOf]; done) | (simp [intOf]; omega)⟩
  · have hst := dig_step S 5 om_
    have hx8 : ((S : Int) / 32 % 32) = ((UInt8.ofNat (S / 2 ^ (35 - 5 * (5 + 1)) % 32)).toNat : Nat) := by rw [UInt8.toNat_ofNat', show 2 ^ (35 - 5 * (5 + 1)) = 32 from rfl]; omega
    obtain ⟨g, cap, w2, hrun, hown2, hgr, _, _⟩ := run_appB1 w.heap.size _ _ (UInt8.ofNat (S / 2 ^ (35 - 5 * (5 + 1)) % 32)) ((S : Int) / 32 % 32) hx8 wr _ (.inr rfl) hwd.out.own om_ hwd.out.gl.size
    rw [← hst] at hown2
    have HWD : Hid (WdAt w ⟨am, S, hash, payee, memo, E, D, sig⟩ (digB 32 (5 + 1) (S / 2 ^ (35 - 5 * (5 + 1)))) (.slice (some ⟨g, 0, none⟩) ((digB 32 5 (S / 2 ^ (35 - 5 * 5))).length + 1) cap) w2) := Lib.hid ⟨hown2, blk_gl hwd.out.blk hgr (by have := Ne.symm (own_ne hwd.out.own hwd.out.blk de_); simpa using this), gl_step hgr hwd.out.gl (fun r hr => .inr (ownB_blk hwd.out.own r (by simpa using hr)).1)⟩
    have hand := and31_div S 32 32 rfl om_
    have HRUN := Lib.hid hrun
    have f1 : wr.cell? ⟨w.heap.size, 1, none⟩ = some (.int .i64 S) := hfc 1
    have hi : (30 - 5 * ((5 : Nat) : Int)) = 5 := by omega
    rw [hi]
    simp only [hlk] at HRUN HWD ⊢
    clear hi hst hx8 hrun hown2 hgr hfc hlk HB0 hwd
    go_wp2_with (at_builtin; refine wpList_append_run _ rfl (.tmp 9) (.tmp 16) 47 47 rfl _ _ (by simp [Act.eval, Act.put]) (by simp [Act.eval, Act.put]) HRUN.out ?_)
    exact ⟨⟨6, by omega, by first | rfl | go_num, HWD⟩, by first | (simp [intOf]; done) | (simp [intOf]; omega)⟩
  · have hst := dig_step S 6 om_
    have hx8 : ((S : Int) % 32) = ((UInt8.ofNat (S / 2 ^ (35 - 5 * (6 + 1)) % 32)).toNat : Nat) := by rw [UInt8.toNat_ofNat', show 2 ^ (35 - 5 * (6 + 1)) = 1 from rfl]; omega
    obtain ⟨g, cap, w2, hrun, hown2, hgr, _, _⟩ := run_appB1 w.heap.size _ _ (UInt8.ofNat (S / 2 ^ (35 - 5 * (6 + 1)) % 32)) ((S : Int) % 32) hx8 wr _ (.inr rfl) hwd.out.own om_ hwd.out.gl.size
    rw [← hst] at hown2
    have HWD : Hid (WdAt w ⟨am, S, hash, payee, memo, E, D, sig⟩ (digB 32 (6 + 1) (S / 2 ^ (35 - 5 * (6 + 1)))) (.slice (some ⟨g, 0, none⟩) ((digB 32 6 (S / 2 ^ (35 - 5 * 6))).length + 1) cap) w2) := Lib.hid ⟨hown2, blk_gl hwd.out.blk hgr (by have := Ne.symm (own_ne hwd.out.own hwd.out.blk de_); simpa using this), gl_step hgr hwd.out.gl (fun r hr => .inr (ownB_blk hwd.out.own r (by simpa using hr)).1)⟩
    have hand : bits .and .i64 (S : Int) 31 = (S : Int) % 32 := by rw [and31_i64 S om_]; simp
    have HRUN := Lib.hid hrun
    have f1 : wr.cell? ⟨w.heap.size, 1, none⟩ = some (.int .i64 S) := hfc 1
    have hi : (30 - 5 * ((6 : Nat) : Int)) = 0 := by omega
    rw [hi]
    simp only [hlk] at HRUN HWD ⊢
    clear hi hst hx8 hrun hown2 hgr hfc hlk HB0 hwd
    go_wp2_with (at_builtin; refine wpList_append_run _ rfl (.tmp 9) (.tmp 16) 47 47 rfl _ _ (by simp [Act.eval, Act.put]) (by simp [Act.eval, Act.put]) HRUN.out ?_)
    exact ⟨⟨7, by omega, by first | rfl | go_num, HWD⟩, by first | (simp [intOf]; done) | (simp [intOf]; omega)⟩
  · have hi : (30 - 5 * ((7 : Nat) : Int)) = -5 := by omega
    rw [hi]
    have hs0 : S / 2 ^ (35 - 5 * 7) = S := by simp
    rw [hs0] at hwd hlk
    have HA0 := hwd
    simp only [hlk] at HA0
    have L0 : (digB 32 7 S).length ≤ 7 := by omega
    generalize hl0 : digB 32 7 S = l0 at *
    clear hi hs0 hwd HB0 hfc
    have g0 : wr.cell? ⟨w.heap.size, 2, none⟩ = some (.string (bs hash)) := wd_cells HA0.out 2
    go_wp2_with fail
    refine (ref7Text hash om_ _).mono ?_
    rintro e x0 ⟨ta0, tc0, rfl, ht0, hb0⟩
    have HT0 := Lib.hid ht0
    have HBL0 := Lib.hid hb0
    clear ht0 hb0
    go_wp2_with fail
    refine (ref7Fld wr.heap.size 1 1 rfl (textW hash) _ x0 HT0.out om_).mono ?_
    rintro e z0 ⟨fa0, fc0, rfl, hf0, hg0⟩
    have HZ0 := wd_below (wd_below HA0.out HBL0.out) hg0
    obtain ⟨ga0, gc0, y0, hrun0, hown0, hgr0⟩ := run_appR w.heap.size _ _ _ _ z0 HZ0.own (ownB_in hf0).1 (by simp only [fieldW, List.length_cons]; omega) HZ0.gl.size
    have hlap0 : (l0 ++ fieldW 1 (textW hash)).length = l0.length + (fieldW 1 (textW hash)).length := List.length_append
    rw [← hlap0] at hrun0 hown0
    have HA1 := Lib.hid (wd_app HZ0 hgr0 hown0)
    have HRUN0 := Lib.hid hrun0
    have L1 : (l0 ++ fieldW 1 (textW hash)).length ≤ 1033 := by rw [List.length_append]; unfold fieldW; simp only [List.length_cons]; omega
    clear hf0 hg0 g0 HT0 HBL0 HZ0 hrun0 hown0 hgr0 hlap0
    generalize hl1 : l0 ++ fieldW 1 (textW hash) = l1 at *
    have g1 : y0.cell? ⟨w.heap.size, 3, none⟩ = some (.string (bs payee)) := wd_cells HA1.out 3
    go_wp2_with (((with_reducible (at_builtin; refine wpList_append_run _ rfl (.tmp 18) (.tmp 22) 47 47 rfl _ _ ?ha ?hb HRUN0.out ?_)); (case ha => simp [Act.eval, Act.put]); (case hb => simp [Act.eval, Act.put])))
    refine (ref7Text payee om_ _).mono ?_
    rintro e x1 ⟨ta1, tc1, rfl, ht1, hb1⟩
    have HT1 := Lib.hid ht1
    have HBL1 := Lib.hid hb1
    clear ht1 hb1
    go_wp2_with fail
    refine (ref7Fld y0.heap.size 19 19 rfl (textW payee) _ x1 HT1.out om_).mono ?_
    rintro e z1 ⟨fa1, fc1, rfl, hf1, hg1⟩
    have HZ1 := wd_below (wd_below HA1.out HBL1.out) hg1
    obtain ⟨ga1, gc1, y1, hrun1, hown1, hgr1⟩ := run_appR w.heap.size _ _ _ _ z1 HZ1.own (ownB_in hf1).1 (by simp only [fieldW, List.length_cons]; omega) HZ1.gl.size
    have hlap1 : (l1 ++ fieldW 19 (textW payee)).length = l1.length + (fieldW 19 (textW payee)).length := List.length_append
    rw [← hlap1] at hrun1 hown1
    have HA2 := Lib.hid (wd_app HZ1 hgr1 hown1)
    have HRUN1 := Lib.hid hrun1
    have L2 : (l1 ++ fieldW 19 (textW payee)).length ≤ 2059 := by rw [List.length_append]; unfold fieldW; simp only [List.length_cons]; omega
    clear hf1 hg1 g1 HT1 HBL1 HZ1 hrun1 hown1 hgr1 hlap1
    generalize hl2 : l1 ++ fieldW 19 (textW payee) = l2 at *
    have g2 : y1.cell? ⟨w.heap.size, 4, none⟩ = some (.string (bs memo)) := wd_cells HA2.out 4
    go_wp2_with (((with_reducible (at_builtin; refine wpList_append_run _ rfl (.tmp 24) (.tmp 28) 47 47 rfl _ _ ?ha ?hb HRUN1.out ?_)); (case ha => simp [Act.eval, Act.put]); (case hb => simp [Act.eval, Act.put])))
    refine (ref7Text memo om_ _).mono ?_
    rintro e x2 ⟨ta2, tc2, rfl, ht2, hb2⟩
    have HT2 := Lib.hid ht2
    have HBL2 := Lib.hid hb2
    clear ht2 hb2
    go_wp2_with fail
    refine (ref7Fld y1.heap.size 13 13 rfl (textW memo) _ x2 HT2.out om_).mono ?_
    rintro e z2 ⟨fa2, fc2, rfl, hf2, hg2⟩
    have HZ2 := wd_below (wd_below HA2.out HBL2.out) hg2
    obtain ⟨ga2, gc2, y2, hrun2, hown2, hgr2⟩ := run_appR w.heap.size _ _ _ _ z2 HZ2.own (ownB_in hf2).1 (by simp only [fieldW, List.length_cons]; omega) HZ2.gl.size
    have hlap2 : (l2 ++ fieldW 13 (textW memo)).length = l2.length + (fieldW 13 (textW memo)).length := List.length_append
    rw [← hlap2] at hrun2 hown2
    have HA3 := Lib.hid (wd_app HZ2 hgr2 hown2)
    have HRUN2 := Lib.hid hrun2
    have L3 : (l2 ++ fieldW 13 (textW memo)).length ≤ 3085 := by rw [List.length_append]; unfold fieldW; simp only [List.length_cons]; omega
    clear hf2 hg2 g2 HT2 HBL2 HZ2 hrun2 hown2 hgr2 hlap2
    generalize hl3 : l2 ++ fieldW 13 (textW memo) = l3 at *
    have g3 : y2.cell? ⟨w.heap.size, 5, none⟩ = some (.int .i64 E) := wd_cells HA3.out 5
    go_wp2_with (((with_reducible (at_builtin; refine wpList_append_run _ rfl (.tmp 30) (.tmp 34) 47 47 rfl _ _ ?ha ?hb HRUN2.out ?_)); (case ha => simp [Act.eval, Act.put]); (case hb => simp [Act.eval, Act.put])))
    refine (ref7Num E _ om_).mono ?_
    rintro e x3 ⟨ta3, tc3, rfl, ht3, hb3⟩
    have HT3 := Lib.hid ht3
    have HBL3 := Lib.hid hb3
    clear ht3 hb3
    go_wp2_with fail
    refine (ref7Fld y2.heap.size 6 6 rfl (numW E) _ x3 HT3.out om_).mono ?_
    rintro e z3 ⟨fa3, fc3, rfl, hf3, hg3⟩
    have HZ3 := wd_below (wd_below HA3.out HBL3.out) hg3
    obtain ⟨ga3, gc3, y3, hrun3, hown3, hgr3⟩ := run_appR w.heap.size _ _ _ _ z3 HZ3.own (ownB_in hf3).1 (by simp only [fieldW, List.length_cons]; omega) HZ3.gl.size
    have hlap3 : (l3 ++ fieldW 6 (numW E)).length = l3.length + (fieldW 6 (numW E)).length := List.length_append
    rw [← hlap3] at hrun3 hown3
    have HA4 := Lib.hid (wd_app HZ3 hgr3 hown3)
    have HRUN3 := Lib.hid hrun3
    have L4 : (l3 ++ fieldW 6 (numW E)).length ≤ 3095 := by rw [List.length_append]; unfold fieldW; simp only [List.length_cons]; omega
    clear hf3 hg3 g3 HT3 HBL3 HZ3 hrun3 hown3 hgr3 hlap3
    generalize hl4 : l3 ++ fieldW 6 (numW E) = l4 at *
    have g4 : y3.cell? ⟨w.heap.size, 6, none⟩ = some (.int .i64 D) := wd_cells HA4.out 6
    go_wp2_with (((with_reducible (at_builtin; refine wpList_append_run _ rfl (.tmp 36) (.tmp 40) 47 47 rfl _ _ ?ha ?hb HRUN3.out ?_)); (case ha => simp [Act.eval, Act.put]); (case hb => simp [Act.eval, Act.put])))
    refine (ref7Num D _ om_).mono ?_
    rintro e x4 ⟨ta4, tc4, rfl, ht4, hb4⟩
    have HT4 := Lib.hid ht4
    have HBL4 := Lib.hid hb4
    clear ht4 hb4
    go_wp2_with fail
    refine (ref7Fld y3.heap.size 24 24 rfl (numW D) _ x4 HT4.out om_).mono ?_
    rintro e z4 ⟨fa4, fc4, rfl, hf4, hg4⟩
    have HZ4 := wd_below (wd_below HA4.out HBL4.out) hg4
    obtain ⟨ga4, gc4, y4, hrun4, hown4, hgr4⟩ := run_appR w.heap.size _ _ _ _ z4 HZ4.own (ownB_in hf4).1 (by simp only [fieldW, List.length_cons]; omega) HZ4.gl.size
    have hlap4 : (l4 ++ fieldW 24 (numW D)).length = l4.length + (fieldW 24 (numW D)).length := List.length_append
    rw [← hlap4] at hrun4 hown4
    have HA5 := Lib.hid (wd_app HZ4 hgr4 hown4)
    have HRUN4 := Lib.hid hrun4
    have L5 : (l4 ++ fieldW 24 (numW D)).length ≤ 3105 := by rw [List.length_append]; unfold fieldW; simp only [List.length_cons]; omega
    clear hf4 hg4 g4 HT4 HBL4 HZ4 hrun4 hown4 hgr4 hlap4
    generalize hl5 : l4 ++ fieldW 24 (numW D) = l5 at *
    go_wp2_with (((with_reducible (at_builtin; refine wpList_append_run _ rfl (.tmp 42) (.tmp 46) 47 47 rfl _ _ ?ha ?hb HRUN4.out ?_)); (case ha => simp [Act.eval, Act.put]); (case hb => simp [Act.eval, Act.put])))
    have HE : Hid (wordsI ⟨am, S, hash, payee, memo, E, D, sig⟩ = l5) := HW
    have hf : OwnB w.heap.size (.slice ga4 l5.length gc4) l5 y4 := HA5.out.own
    have HF := Lib.hid hf
    clear hf hl0 hl1 hl2 hl3 hl4 hl5
    exact bodyPost_ret (v := .slice ga4 l5.length gc4) (by simp [results, Tryz.results40, go_sem]) rfl ⟨ga4, gc4, by rw [HE.out], by rw [HE.out]; exact HF.out, gl_to_below HA5.out.gl⟩
theorem refVerify (p m s : List UInt8) (hs : s.length ≤ 9000000000000000000) (w : World) :
  Calls Tryz.prog 47 #[.string (bs p), .string (bs m), .string (bs s)] w fun e w' => e = .returned (.bool (verifyT p m s)) ∧ Below w.heap.size w w' := by
 cases hr : rt s with
 | none =>
   have H : Hid (verifyT p m s = false) := by show verifyT p m s = false; unfold verifyT; rw [hr]
   have HR := Lib.hid hr
   clear hr
   go_enter Tryz.func47, Tryz.ntmps47
   go_wp2_with fail
   refine (refOpen s hs _).mono ?_
   rintro e w1 hp
   rw [HR.out] at hp
   obtain ⟨rfl, hb1⟩ := hp
   go_wp2_with fail
   go_ret
   exact ⟨by first | (rw [H.out]; done) | (rw [H.out]; rfl), bl_⟩
 | some x =>
   by_cases ho : x.op.toNat = 83
   · obtain ⟨a, b, hk, ha, hb, _⟩ := rt_two_kids hr (by simp [arity, ← UInt8.toNat_inj, ho])
     have hal := right_len ha
     have HV : Hid (verifyT p m s = (b == m && keyT a == p)) := by
      show verifyT p m s = _
      unfold verifyT
      rw [hr]
      simp [ho, hk]
     have HKS := Lib.hid hk
     have HR := Lib.hid hr
     have b1 : (((x.op.toNat : Nat) : Int) == 83) = true := by simp [ho]
     clear hr ho hk hb ha
     cases hbm : (b == m) with
     | false =>
       have H : Hid (verifyT p m s = false) := by show verifyT p m s = false; rw [HV.out, hbm]; rfl
       have hne : ¬ b = m := by simpa using hbm
       clear HV
       go_enter Tryz.func47, Tryz.ntmps47
       go_wp2_with fail
       refine (refOpen s hs _).mono ?_
       rintro e w1 hp
       rw [HR.out] at hp
       obtain ⟨ad, kn, kc, rfl, hown, hb1⟩ := hp
       rw [HKS.out] at hown
       obtain ⟨g, cap, hv, hgb, hgw, hcap, hcap2, hcell⟩ := own_cells hown si_
       injection hv with hv1 hv2 hv3
       subst hv1 hv2 hv3
       have c0 := kcell_alloc (hcell 0 (.string (bs a)) rfl) (.cells #[.int .u8 x.op.toNat, .int .i64 (numOf x), .string (bs x.text), .slice (some ⟨g, 0, none⟩) 2 kc] 98)
       have c1 := kcell_alloc (hcell 1 (.string (bs b)) rfl) (.cells #[.int .u8 x.op.toNat, .int .i64 (numOf x), .string (bs x.text), .slice (some ⟨g, 0, none⟩) 2 kc] 98)
       clear hcell hown
       go_wp2_with fail
       go_ret
       exact ⟨by first | (rw [H.out]; done) | (rw [H.out]; rfl), bl_⟩
     | true =>
       obtain rfl : b = m := by simpa using hbm
       clear hbm
       have H : Hid (verifyT p b s = (keyT a == p)) := by show verifyT p b s = _; rw [HV.out]; simp
       clear HV
       go_enter Tryz.func47, Tryz.ntmps47
       go_wp2_with fail
       refine (refOpen s hs _).mono ?_
       rintro e w1 hp
       rw [HR.out] at hp
       obtain ⟨ad, kn, kc, rfl, hown, hb1⟩ := hp
       rw [HKS.out] at hown
       obtain ⟨g, cap, hv, hgb, hgw, hcap, hcap2, hcell⟩ := own_cells hown si_
       injection hv with hv1 hv2 hv3
       subst hv1 hv2 hv3
       have c0 := kcell_alloc (hcell 0 (.string (bs a)) rfl) (.cells #[.int .u8 x.op.toNat, .int .i64 (numOf x), .string (bs x.text), .slice (some ⟨g, 0, none⟩) 2 kc] 98)
       have c1 := kcell_alloc (hcell 1 (.string (bs b)) rfl) (.cells #[.int .u8 x.op.toNat, .int .i64 (numOf x), .string (bs x.text), .slice (some ⟨g, 0, none⟩) 2 kc] 98)
       clear hcell hown
       go_wp2_with fail
       refine (refKey a om_ om_ _).mono ?_
       rintro e w2 ⟨rfl, hb3⟩
       go_wp2_with fail
       go_ret
       refine ⟨?_, bl_⟩
       rw [H.out]
       rw [show (keyT a == p) = (p == keyT a) from Bool.beq_comm]
       first | rfl | (congr 2; rw [Bool.eq_iff_iff]; simp; done) | (simp; done)
   · have H : Hid (verifyT p m s = false) := by show verifyT p m s = false; unfold verifyT; rw [hr]; simp [ho]
     have HR := Lib.hid hr
     have b1 : (((x.op.toNat : Nat) : Int) == 83) = false := by simp; omega
     clear hr ho
     go_enter Tryz.func47, Tryz.ntmps47
     go_wp2_with fail
     refine (refOpen s hs _).mono ?_
     rintro e w1 hp
     rw [HR.out] at hp
     obtain ⟨ad, kn, kc, rfl, hown, hb1⟩ := hp
     clear hown
     go_wp2_with fail
     go_ret
     exact ⟨by first | (rw [H.out]; done) | (rw [H.out]; rfl), bl_⟩
theorem refOpenG (l : List UInt8) (hl : l.length ≤ 9000000000000000000) (w : World) :
  Calls Tryz.prog 76 #[.string (bs l)] w fun e w' => ∃ n t ad kn kc b, e = .returned (.tuple #[.agg #[.int .u8 (opN l : Nat), .int .i64 n, .string (bs t), .slice ad kn kc], .bool b]) ∧ (b = false → opN l = 0) ∧ Below w.heap.size w w' := by
 refine (refOpen l hl w).mono fun e w' h => ?_
 unfold OpenPost at h
 unfold opN
 cases hr : rt l with
 | none => rw [hr] at h; exact ⟨_, _, _, _, _, _, h.1, fun _ => rfl, h.2⟩
 | some x =>
   rw [hr] at h
   obtain ⟨ad, n, c, he, _, hb⟩ := h
   refine ⟨_, _, _, _, _, _, he, ?_, hb⟩
   intro h
   exact absurd h si_
theorem ref7May (x : Inv) (hx : InvOk x) (w : World) :
  Calls Tryz.prog 39 #[invV x] w fun e w' => e = .returned (.bool (mayI x)) ∧ Below w.heap.size w w' := by
 have hM : Hid (mayI x = (isHashT x.hash && isPubT x.payee && decide (x.hash.length ≤ 639) && decide (x.payee.length ≤ 639) && decide (x.memo.length ≤ 639) && decide (0 ≤ x.st) && decide (x.st < 34359738368) && decide (0 ≤ x.ex) && decide (x.ex < 34359738368) && decide (0 ≤ x.de) && decide (x.de < 2147483648))) := Lib.hid rfl
 rw [isHashT_op, isPubT_op] at hM
 have hh := hx.hash
 have hp := hx.payee
 have hm := hx.memo
 clear hx
 obtain ⟨am, st, hash, payee, memo, ex, de, sig⟩ := x
 unfold invV
 simp only at hM hh hp hm ⊢
 go_enter Tryz.func39, Tryz.ntmps39
 go_wp2_with fail
 have hB1 := blk_new w (.cells #[.int .i64 am, .int .i64 st, .string (bs hash), .string (bs payee), .string (bs memo), .int .i64 ex, .int .i64 de, .string (bs sig)] 31)
 refine (refOpenG hash om_ _).mono ?_
 rintro e w1 ⟨n1, t1, ad1, kn1, kc1, b1, rfl, hz1, hb1⟩
 have hB2 := blk_below hB1 hb1 (blk_lt hB1)
 have HL1 : Hid (GL [] w w1) := Lib.hid (gl_below hb1 (gl_alloc (gl_refl _ _) _))
 have HB2 := Lib.hid hB2
 have HZ1 := Lib.hid hz1
 clear hB1 hb1 hB2 hz1
 have f2 := blk_cell HB2.out
 have hs1 := blk_lt HB2.out
 go_wp2_with fail
 have hC1 := blk_new w1 (.cells #[.int .u8 (opN hash : Nat), .int .i64 n1, .string (bs t1), .slice ad1 kn1 kc1] 98)
 refine (refOpenG payee om_ _).mono ?_
 rintro e w2 ⟨n2, t2, ad2, kn2, kc2, b2, rfl, hz2, hb2⟩
 have hC2 := Lib.hid (blk_below hC1 hb2 (blk_lt hC1))
 have HB3 := Lib.hid (blk_below (blk_alloc HB2.out _) hb2 (blk_lt (blk_alloc HB2.out _)))
 have HL2 : Hid (GL [] w w2) := Lib.hid (gl_below hb2 (gl_alloc HL1.out _))
 have HZ2 := Lib.hid hz2
 generalize w1.heap.size = C at *
 clear hC1 hb2 f2 hs1 hz2 HB2
 have f3 := blk_cell HB3.out
 have hs3 := blk_lt HB3.out
 have g3 := blk_cell hC2.out
 have gs3 := blk_lt hC2.out
 generalize opN hash = H at *
 generalize opN payee = P at *
 clear hC2 HB3
 rcases (by omega : P = 80 ∨ P = 87 ∨ P = 76 ∨ (P ≠ 80 ∧ P ≠ 87 ∧ P ≠ 76)) with rfl | rfl | rfl | ⟨hp1, hp2, hp3⟩
 case' inr.inr.inr =>
  have p1 : (((P : Nat) : Int) == 80) = false := by simp; omega
  have p2 : (((P : Nat) : Int) == 87) = false := by simp; omega
  have p3 : (((P : Nat) : Int) == 76) = false := by simp; omega
 case inr.inr.inr =>
  by_cases q1 : 0 ≤ st
  · have q1b : decide (0 ≤ st) = true := by simp; omega
    by_cases q2 : st < 34359738368
    · have q2b : decide (st < 34359738368) = true := by simp; omega
      cases b1 with
      | false =>
        have HE : Hid (mayI ⟨am, st, hash, payee, memo, ex, de, sig⟩ = false) := Lib.hid (by rw [hM.out, decide_eq_false (show ¬ (P = 80 ∨ P = 87 ∨ P = 76) by omega)]; simp)
        go_wp2_with fail
        exact bodyPost_ret (v := .bool false) (by simp [results, Tryz.results39, go_sem]) rfl ⟨by rw [HE.out], gl_to_below (gl_alloc HL2.out _)⟩
      | true =>
        by_cases q4 : H = 72
        · have q4b : ((H : Int) == 72) = true := by simp; omega
          cases b2 with
          | false =>
            have HE : Hid (mayI ⟨am, st, hash, payee, memo, ex, de, sig⟩ = false) := Lib.hid (by rw [hM.out, decide_eq_false (show ¬ (P = 80 ∨ P = 87 ∨ P = 76) by omega)]; simp)
            go_wp2_with fail
            exact bodyPost_ret (v := .bool false) (by simp [results, Tryz.results39, go_sem]) rfl ⟨by rw [HE.out], gl_to_below (gl_alloc HL2.out _)⟩
          | true =>
            have HE : Hid (mayI ⟨am, st, hash, payee, memo, ex, de, sig⟩ = false) := Lib.hid (by rw [hM.out, decide_eq_false (show ¬ (P = 80 ∨ P = 87 ∨ P = 76) by omega)]; simp)
            go_wp2_with fail
            exact bodyPost_ret (v := .bool false) (by simp [results, Tryz.results39, go_sem]) rfl ⟨by rw [HE.out], gl_to_below (gl_alloc HL2.out _)⟩
        · have q4b : ((H : Int) == 72) = false := by simp; omega
          have HE : Hid (mayI ⟨am, st, hash, payee, memo, ex, de, sig⟩ = false) := Lib.hid (by rw [hM.out, decide_eq_false (show ¬ (P = 80 ∨ P = 87 ∨ P = 76) by omega)]; simp)
          go_wp2_with fail
          exact bodyPost_ret (v := .bool false) (by simp [results, Tryz.results39, go_sem]) rfl ⟨by rw [HE.out], gl_to_below (gl_alloc HL2.out _)⟩
    · have q2b : decide (st < 34359738368) = false := by simp; omega
      have HE : Hid (mayI ⟨am, st, hash, payee, memo, ex, de, sig⟩ = false) := Lib.hid (by rw [hM.out, decide_eq_false (show ¬ (P = 80 ∨ P = 87 ∨ P = 76) by omega)]; simp)
      go_wp2_with fail
      exact bodyPost_ret (v := .bool false) (by simp [results, Tryz.results39, go_sem]) rfl ⟨by rw [HE.out], gl_to_below (gl_alloc HL2.out _)⟩
  · have q1b : decide (0 ≤ st) = false := by simp; omega
    have HE : Hid (mayI ⟨am, st, hash, payee, memo, ex, de, sig⟩ = false) := Lib.hid (by rw [hM.out, decide_eq_false (show ¬ (P = 80 ∨ P = 87 ∨ P = 76) by omega)]; simp)
    go_wp2_with fail
    exact bodyPost_ret (v := .bool false) (by simp [results, Tryz.results39, go_sem]) rfl ⟨by rw [HE.out], gl_to_below (gl_alloc HL2.out _)⟩
 all_goals
  by_cases q1 : 0 ≤ st
  · have q1b : decide (0 ≤ st) = true := by simp; omega
    by_cases q2 : st < 34359738368
    · have q2b : decide (st < 34359738368) = true := by simp; omega
      cases b1 with
      | false =>
        have hz := HZ1.out rfl
        have HE : Hid (mayI ⟨am, st, hash, payee, memo, ex, de, sig⟩ = false) := Lib.hid (by rw [hM.out, hz]; simp)
        go_wp2_with fail
        exact bodyPost_ret (v := .bool false) (by simp [results, Tryz.results39, go_sem]) rfl ⟨by rw [HE.out], gl_to_below (gl_alloc HL2.out _)⟩
      | true =>
        by_cases q4 : H = 72
        · have q4b : ((H : Int) == 72) = true := by simp; omega
          cases b2 with
          | false =>
            exact absurd (HZ2.out rfl) de_
          | true =>
            by_cases q7 : hash.length ≤ 639
            · have q7b : decide ((hash.length : Int) ≤ 639) = true := by simp; omega
              by_cases q8 : payee.length ≤ 639
              · have q8b : decide ((payee.length : Int) ≤ 639) = true := by simp; omega
                by_cases q9 : memo.length ≤ 639
                · have q9b : decide ((memo.length : Int) ≤ 639) = true := by simp; omega
                  by_cases q10 : 0 ≤ ex
                  · have q10b : decide (0 ≤ ex) = true := by simp; omega
                    by_cases q11 : ex < 34359738368
                    · have q11b : decide (ex < 34359738368) = true := by simp; omega
                      by_cases q12 : 0 ≤ de
                      · have q12b : decide (0 ≤ de) = true := by simp; omega
                        by_cases q13 : de < 2147483648
                        · have q13b : decide (de < 2147483648) = true := by simp; omega
                          have HE : Hid (mayI ⟨am, st, hash, payee, memo, ex, de, sig⟩ = true) := Lib.hid (by rw [hM.out]; simp; first | done | omega)
                          go_wp2_with fail
                          exact bodyPost_ret (v := .bool true) (by simp [results, Tryz.results39, go_sem]) rfl ⟨by rw [HE.out], gl_to_below (gl_alloc HL2.out _)⟩
                        · have q13b : decide (de < 2147483648) = false := by simp; omega
                          have HE : Hid (mayI ⟨am, st, hash, payee, memo, ex, de, sig⟩ = false) := Lib.hid (by rw [hM.out, decide_eq_false q13]; simp)
                          go_wp2_with fail
                          exact bodyPost_ret (v := .bool false) (by simp [results, Tryz.results39, go_sem]) rfl ⟨by rw [HE.out], gl_to_below (gl_alloc HL2.out _)⟩
                      · have q12b : decide (0 ≤ de) = false := by simp; omega
                        have HE : Hid (mayI ⟨am, st, hash, payee, memo, ex, de, sig⟩ = false) := Lib.hid (by rw [hM.out, decide_eq_false q12]; simp)
                        go_wp2_with fail
                        exact bodyPost_ret (v := .bool false) (by simp [results, Tryz.results39, go_sem]) rfl ⟨by rw [HE.out], gl_to_below (gl_alloc HL2.out _)⟩
                    · have q11b : decide (ex < 34359738368) = false := by simp; omega
                      have HE : Hid (mayI ⟨am, st, hash, payee, memo, ex, de, sig⟩ = false) := Lib.hid (by rw [hM.out, decide_eq_false q11]; simp)
                      go_wp2_with fail
                      exact bodyPost_ret (v := .bool false) (by simp [results, Tryz.results39, go_sem]) rfl ⟨by rw [HE.out], gl_to_below (gl_alloc HL2.out _)⟩
                  · have q10b : decide (0 ≤ ex) = false := by simp; omega
                    have HE : Hid (mayI ⟨am, st, hash, payee, memo, ex, de, sig⟩ = false) := Lib.hid (by rw [hM.out, decide_eq_false q10]; simp)
                    go_wp2_with fail
                    exact bodyPost_ret (v := .bool false) (by simp [results, Tryz.results39, go_sem]) rfl ⟨by rw [HE.out], gl_to_below (gl_alloc HL2.out _)⟩
                · have q9b : decide ((memo.length : Int) ≤ 639) = false := by simp; omega
                  have HE : Hid (mayI ⟨am, st, hash, payee, memo, ex, de, sig⟩ = false) := Lib.hid (by rw [hM.out, decide_eq_false q9]; simp)
                  go_wp2_with fail
                  exact bodyPost_ret (v := .bool false) (by simp [results, Tryz.results39, go_sem]) rfl ⟨by rw [HE.out], gl_to_below (gl_alloc HL2.out _)⟩
              · have q8b : decide ((payee.length : Int) ≤ 639) = false := by simp; omega
                have HE : Hid (mayI ⟨am, st, hash, payee, memo, ex, de, sig⟩ = false) := Lib.hid (by rw [hM.out, decide_eq_false q8]; simp)
                go_wp2_with fail
                exact bodyPost_ret (v := .bool false) (by simp [results, Tryz.results39, go_sem]) rfl ⟨by rw [HE.out], gl_to_below (gl_alloc HL2.out _)⟩
            · have q7b : decide ((hash.length : Int) ≤ 639) = false := by simp; omega
              have HE : Hid (mayI ⟨am, st, hash, payee, memo, ex, de, sig⟩ = false) := Lib.hid (by rw [hM.out, decide_eq_false q7]; simp)
              go_wp2_with fail
              exact bodyPost_ret (v := .bool false) (by simp [results, Tryz.results39, go_sem]) rfl ⟨by rw [HE.out], gl_to_below (gl_alloc HL2.out _)⟩
        · have q4b : ((H : Int) == 72) = false := by simp; omega
          have HE : Hid (mayI ⟨am, st, hash, payee, memo, ex, de, sig⟩ = false) := Lib.hid (by rw [hM.out, decide_eq_false q4]; simp)
          go_wp2_with fail
          exact bodyPost_ret (v := .bool false) (by simp [results, Tryz.results39, go_sem]) rfl ⟨by rw [HE.out], gl_to_below (gl_alloc HL2.out _)⟩
    · have q2b : decide (st < 34359738368) = false := by simp; omega
      have HE : Hid (mayI ⟨am, st, hash, payee, memo, ex, de, sig⟩ = false) := Lib.hid (by rw [hM.out, decide_eq_false q2]; simp)
      go_wp2_with fail
      exact bodyPost_ret (v := .bool false) (by simp [results, Tryz.results39, go_sem]) rfl ⟨by rw [HE.out], gl_to_below (gl_alloc HL2.out _)⟩
  · have q1b : decide (0 ≤ st) = false := by simp; omega
    have HE : Hid (mayI ⟨am, st, hash, payee, memo, ex, de, sig⟩ = false) := Lib.hid (by rw [hM.out, decide_eq_false q1]; simp)
    go_wp2_with fail
    exact bodyPost_ret (v := .bool false) (by simp [results, Tryz.results39, go_sem]) rfl ⟨by rw [HE.out], gl_to_below (gl_alloc HL2.out _)⟩
theorem ref7Body (x : Inv) (hx : InvOk x) (w : World) :
  Calls Tryz.prog 16 #[invV x] w fun e w' => e = .returned (.tuple #[.string (bs (bodyR x)), .int .i64 (bodyE x)]) ∧ Below w.heap.size w w' := by
 have HX := Lib.hid hx
 have ham0 := hx.am0
 have ham1 := hx.am1
 have hal := amountT_len x.am
 clear hx
 unfold invV
 go_enter Tryz.func16, Tryz.ntmps16
 go_wp2_with fail
 have HB1 := Lib.hid (blk_new w (.cells #[.int .i64 x.am, .int .i64 x.st, .string (bs x.hash), .string (bs x.payee), .string (bs x.memo), .int .i64 x.ex, .int .i64 x.de, .string (bs x.sig)] 31))
 have HL1 : Hid (GL [] w (w.alloc (.cells #[.int .i64 x.am, .int .i64 x.st, .string (bs x.hash), .string (bs x.payee), .string (bs x.memo), .int .i64 x.ex, .int .i64 x.de, .string (bs x.sig)] 31))) := Lib.hid (gl_alloc (gl_refl _ _) _)
 generalize w.alloc (.cells #[.int .i64 x.am, .int .i64 x.st, .string (bs x.hash), .string (bs x.payee), .string (bs x.memo), .int .i64 x.ex, .int .i64 x.de, .string (bs x.sig)] 31) = w1 at *
 refine (ref7Amount x.am ham0 ham1 _).mono ?_
 rintro e w2 ⟨rfl, hb2⟩
 have HB2 := Lib.hid (blk_below HB1.out hb2 (blk_lt HB1.out))
 have HL2 : Hid (GL [] w w2) := Lib.hid (gl_below hb2 HL1.out)
 clear hb2 HB1 HL1 ham0 ham1
 by_cases hE : amountE x.am = 0
 · have HE := Lib.hid hE
   rw [hE]
   clear hE
   have f2 := blk_cell HB2.out
   go_wp2_with fail
   refine (ref7May x HX.out _).mono ?_
   rintro e w3 ⟨rfl, hb3⟩
   have HB3 := Lib.hid (blk_below HB2.out hb3 (blk_lt HB2.out))
   have HL3 : Hid (GL [] w w3) := Lib.hid (gl_below hb3 HL2.out)
   clear hb3 HB2 HL2 f2
   cases hm : mayI x with
   | false =>
     have HR := Lib.hid (body_may HE.out hm)
     clear hm
     go_wp2_with fail
     exact bodyPost_ret (v := .tuple #[.string (bs []), .int .i64 70]) (by simp [results, Tryz.results16, go_sem]) rfl ⟨by rw [HR.out.1, HR.out.2], gl_to_below HL3.out⟩
   | true =>
     have HR := Lib.hid (body_ok HE.out hm)
     have HM := Lib.hid hm
     clear hm
     obtain ⟨c4, w4, hcv, hin4, hg4⟩ := run_conv 9 Tryz.underlying9 (108 :: 110 :: 115 :: 119 :: amountT x.am) w3 so_
     have HB4 := Lib.hid (blk_gl HB3.out hg4 si_)
     have HL4 : Hid (GL [] w w4) := Lib.hid (gl_step hg4 HL3.out si_)
     have HC4 := Lib.hid hin4
     have HW := Lib.hid (wordsI_lt x HM.out).2
     clear hin4 hg4
     have f4 := blk_cell HB4.out
     have HBT : Hid (bodyT x = bodyT.textL0 (hexT ((108 :: 110 :: 115 :: 119 :: amountT x.am) ++ wordsI x))) := Lib.hid rfl
     generalize amountT x.am = am at *
     go_wp2_with fail
     refine (ref7Words x HM.out _).mono ?_
     rintro e w5 ⟨ad5, c5, rfl, hown5, hb5⟩
     have HL5 : Hid (GL [] w w5) := Lib.hid (gl_below hb5 HL4.out)
     obtain ⟨ad6, c6, w6, hrun, hin6, G, hG, hg6⟩ := run_appC _ _ _ (wordsI x) w5 (cvAt_below HC4.out hb5) (by unfold wordsI fieldW; simp; omega) (ownB_in hown5).1 (by have := HW.out; simp; omega)
     obtain rfl : w3.heap.size = G := by
      simp [Value.ownBlock] at hG
      exact hG
     have HL6 : Hid (GL [] w w6) := Lib.hid (gl_step hg6 HL5.out (fun r hr => .inr (by simp at hr; subst hr; exact HL3.out.size)))
     have HIN6 := Lib.hid hin6
     simp only [List.length_cons] at hrun
     have HRUN := Lib.hid hrun
     clear hown5 hb5 hrun hin6 hG hg6 f4
     go_wp2_with (at_builtin; refine wpList_append_run _ rfl (.tmp 24) (.tmp 26) 47 47 rfl _ _ (by simp [Act.eval, Act.put]) (by simp [Act.eval, Act.put]) HRUN.out ?_)
     refine (ref2Hex _ (by have := HW.out; simp; omega) _ _ HIN6.out).mono ?_
     rintro e w7 ⟨rfl, hb7⟩
     have HL7 : Hid (GL [] w w7) := Lib.hid (gl_below hb7 HL6.out)
     have HTX := Lib.hid (text_hex ((108 :: 110 :: 115 :: 119 :: am) ++ wordsI x))
     have htl := hexT_len ((108 :: 110 :: 115 :: 119 :: am) ++ wordsI x)
     generalize hexT ((108 :: 110 :: 115 :: 119 :: am) ++ wordsI x) = hx at *
     clear hb7
     go_wp2_with fail
     refine (refText hx om_ _).mono ?_
     rintro e w8 ⟨rfl, hb8⟩
     rw [HTX.out]
     have HF : Hid (Below w.heap.size w w8) := Lib.hid (gl_to_below (gl_below hb8 HL7.out))
     clear hb8
     go_wp2_with fail
     exact bodyPost_ret (v := .tuple #[.string (bs (bodyT.textL0 hx)), .int .i64 0]) (by simp [results, Tryz.results16, go_sem]) rfl ⟨by rw [HR.out.1, HR.out.2, HBT.out], HF.out⟩
 · have HR := Lib.hid (body_money hE)
   have HE40 : amountE x.am = 40 := HR.out.2.2
   rw [HE40]
   clear hE HE40
   go_wp2_with fail
   exact bodyPost_ret (v := .tuple #[.string (bs []), .int .i64 40]) (by simp [results, Tryz.results16, go_sem]) rfl ⟨by rw [HR.out.1, HR.out.2.1], gl_to_below HL2.out⟩
theorem ref7Encode (x : Inv) (hx : InvOk x) (w : World) :
  Calls Tryz.prog 18 #[invV x] w fun e w' => e = .returned (.tuple #[.string (bs (encIR x)), .int .i64 (encIE x)]) ∧ Below w.heap.size w w' := by
 have HX := Lib.hid hx
 have hal := amountT_len x.am
 have hsl := hx.sig
 clear hx
 unfold invV
 go_enter Tryz.func18, Tryz.ntmps18
 go_wp2_with fail
 have HB1 := Lib.hid (blk_new w (.cells #[.int .i64 x.am, .int .i64 x.st, .string (bs x.hash), .string (bs x.payee), .string (bs x.memo), .int .i64 x.ex, .int .i64 x.de, .string (bs x.sig)] 31))
 have HL1 : Hid (GL [] w (w.alloc (.cells #[.int .i64 x.am, .int .i64 x.st, .string (bs x.hash), .string (bs x.payee), .string (bs x.memo), .int .i64 x.ex, .int .i64 x.de, .string (bs x.sig)] 31))) := Lib.hid (gl_alloc (gl_refl _ _) _)
 generalize w.alloc (.cells #[.int .i64 x.am, .int .i64 x.st, .string (bs x.hash), .string (bs x.payee), .string (bs x.memo), .int .i64 x.ex, .int .i64 x.de, .string (bs x.sig)] 31) = w1 at *
 refine (ref7Body x HX.out _).mono ?_
 rintro e w2 ⟨rfl, hb2⟩
 have HB2 := Lib.hid (blk_below HB1.out hb2 (blk_lt HB1.out))
 have HL2 : Hid (GL [] w w2) := Lib.hid (gl_below hb2 HL1.out)
 clear hb2 HB1 HL1
 rcases body_cases x with ⟨hE, hR⟩ | ⟨hE, hR⟩
 · rw [hE, hR]
   have HE := Lib.hid hE
   clear hE hR
   have f2 := blk_cell HB2.out
   by_cases hs : x.sig.length ≤ 639
   · have hs1 : (x.sig.length : Int) ≤ 639 := by omega
     cases hv : verifyT x.payee (bodyT x) x.sig with
     | false =>
       have HR := Lib.hid (encI_sig HE.out (.inr hv))
       have HV := Lib.hid hv
       clear hv
       generalize bodyT x = bt at *
       go_wp2_with fail
       refine (refVerify x.payee bt x.sig om_ _).mono ?_
       rintro e w3 ⟨rfl, hb3⟩
       rw [HV.out]
       have HL3 : Hid (GL [] w w3) := Lib.hid (gl_below hb3 HL2.out)
       clear hb3
       go_wp2_with fail
       exact bodyPost_ret (v := .tuple #[.string (bs []), .int .i64 71]) (by simp [results, Tryz.results18, go_sem]) rfl ⟨by rw [HR.out.1, HR.out.2], gl_to_below HL3.out⟩
     | true =>
       have HR := Lib.hid (encI_ok HE.out hs hv)
       have HV := Lib.hid hv
       have hwl := (wordsI_lt x HR.out.2.2.2.1).2
       have htl : (textW x.sig).length ≤ 1023 := by rw [(textW_back x.sig).2.1]; omega
       have ham0 := HX.out.am0
       have ham1 := HX.out.am1
       clear hv
       generalize bodyT x = bt at *
       go_wp2_with fail
       refine (refVerify x.payee bt x.sig om_ _).mono ?_
       rintro e w3 ⟨rfl, hb3⟩
       rw [HV.out]
       have HB3 := Lib.hid (blk_below HB2.out hb3 (blk_lt HB2.out))
       have HL3 : Hid (GL [] w w3) := Lib.hid (gl_below hb3 HL2.out)
       clear hb3 HB2 HL2 f2
       have f3 := blk_cell HB3.out
       go_wp2_with fail
       refine (ref7Amount x.am ham0 ham1 _).mono ?_
       rintro e w4 ⟨rfl, hb4⟩
       have HB4 := Lib.hid (blk_below HB3.out hb4 (blk_lt HB3.out))
       have HL4 : Hid (GL [] w w4) := Lib.hid (gl_below hb4 HL3.out)
       clear hb4 HB3 HL3 f3
       have f4 := blk_cell HB4.out
       have HH : Hid (hrpI x = 108 :: 110 :: 115 :: 119 :: amountT x.am) := Lib.hid rfl
       have HALL : Hid (allW x = wordsI x ++ fieldW 16 (textW x.sig)) := Lib.hid rfl
       have HAL := Lib.hid (allW_lt x HR.out.2.2.2.1 hs).2
       generalize amountT x.am = am at *
       go_wp2_with fail
       refine (ref7Words x HR.out.2.2.2.1 _).mono ?_
       rintro e w5 ⟨aw, cw, rfl, how, hb5⟩
       have HB5 := Lib.hid (blk_below HB4.out hb5 (blk_lt HB4.out))
       have HL5 : Hid (GL [] w w5) := Lib.hid (gl_below hb5 HL4.out)
       have HOW := Lib.hid (own_base how HL4.out.size)
       clear how hb5 f4 HB4 HL4
       have f5 := blk_cell HB5.out
       go_wp2_with fail
       refine (ref7Text x.sig om_ _).mono ?_
       rintro e w6 ⟨at2, ct, rfl, hot, hb6⟩
       have HL6 : Hid (GL [] w w6) := Lib.hid (gl_below hb6 HL5.out)
       have HOW6 := Lib.hid (own_below HOW.out hb6 rfl)
       have HOT := Lib.hid hot
       clear hot hb6 f5 HB5 HOW
       go_wp2_with fail
       refine (ref7Fld w5.heap.size 16 16 rfl (textW x.sig) _ w6 HOT.out htl).mono ?_
       rintro e w7 ⟨af, cf, rfl, hof, hb7⟩
       have HL7 : Hid (GL [] w w7) := Lib.hid (gl_below hb7 HL6.out)
       have how7 : OwnB w.heap.size (.slice aw (wordsI x).length cw) (wordsI x) w7 := own_below HOW6.out hb7 rfl
       obtain ⟨ga, gc, w8, hrun, hown, hgr⟩ := run_appR w.heap.size _ _ _ _ w7 how7 (ownB_in hof).1 (by simp only [fieldW, List.length_cons]; omega) HL7.out.size
       have HL8 : Hid (GL [] w w8) := Lib.hid (gl_step hgr HL7.out (fun r hr => .inr (ownB_blk how7 r (by simpa using hr)).1))
       have hla : (wordsI x).length + (fieldW 16 (textW x.sig)).length = (allW x).length := by rw [HALL.out, List.length_append]
       rw [← HALL.out] at hown
       rw [hla] at hrun hown
       have HRUN := Lib.hid hrun
       have HOA := Lib.hid hown
       have hcc : ¬ (9223372036854775807 < 4 + am.length) := by omega
       have hal2 := HAL.out
       clear hrun hown hgr how7 hof hb7 HOT HOW6 hla
       go_wp2_with (first | ((with_reducible (at_builtin; refine wpList_append_run _ rfl (.tmp 38) (.tmp 42) 47 47 rfl _ _ ?ha ?hb HRUN.out ?_)); (case ha => simp [Act.eval, Act.put]); (case hb => simp [Act.eval, Act.put])))
       rw [← HH.out]
       refine (ref6Encode (hrpI x) (allW x) _ w8 (ownB_in HOA.out).1 (by rw [HH.out]; simp; omega) om_).mono ?_
       rintro e wd ⟨rfl, hbd⟩
       rw [HR.out.2.2.2.2.1, HR.out.2.2.2.2.2]
       have HF : Hid (Below w.heap.size w wd) := Lib.hid (gl_to_below (gl_below hbd HL8.out))
       clear hbd
       go_wp2_with fail
       exact bodyPost_ret (v := .tuple #[.string (bs (encIT x)), .int .i64 0]) (by simp [results, Tryz.results18, go_sem]) rfl ⟨by rw [HR.out.1, HR.out.2.1], HF.out⟩
   · have hs1 : (639 : Int) < x.sig.length := by omega
     have HR := Lib.hid (encI_sig HE.out (.inl om_))
     clear hs
     generalize bodyT x = bt at *
     go_wp2_with fail
     exact bodyPost_ret (v := .tuple #[.string (bs []), .int .i64 71]) (by simp [results, Tryz.results18, go_sem]) rfl ⟨by rw [HR.out.1, HR.out.2], gl_to_below HL2.out⟩
 · have HR := Lib.hid (encI_body (x := x) om_)
   rw [hR]
   clear hR
   rcases hE with hE | hE
   · have HE := Lib.hid hE
     rw [hE]
     clear hE
     go_wp2_with fail
     exact bodyPost_ret (v := .tuple #[.string (bs []), .int .i64 40]) (by simp [results, Tryz.results18, go_sem]) rfl ⟨by rw [HR.out.1, HR.out.2, HE.out], gl_to_below HL2.out⟩
   · have HE := Lib.hid hE
     rw [hE]
     clear hE
     go_wp2_with fail
     exact bodyPost_ret (v := .tuple #[.string (bs []), .int .i64 70]) (by simp [results, Tryz.results18, go_sem]) rfl ⟨by rw [HR.out.1, HR.out.2, HE.out], gl_to_below HL2.out⟩
theorem lInvoiceWrites (x : Inv) (hx : InvBig x) (w : World) (hI : IOk w) :
  Calls Tryz.prog 4 #[invV x] w fun e w' => e = .returned (.bool true) ∧ Below w.heap.size w w' := by
 have HX := Lib.hid hx
 have HI := Lib.hid hI
 clear hx hI
 unfold invV
 go_enter Tryz.func4, Tryz.ntmps4
 go_wp2_with fail
 have HB1 := Lib.hid (blk_new w (.cells #[.int .i64 x.am, .int .i64 x.st, .string (bs x.hash), .string (bs x.payee), .string (bs x.memo), .int .i64 x.ex, .int .i64 x.de, .string (bs x.sig)] 31))
 have HI1 : Hid (IOk (w.alloc (.cells #[.int .i64 x.am, .int .i64 x.st, .string (bs x.hash), .string (bs x.payee), .string (bs x.memo), .int .i64 x.ex, .int .i64 x.de, .string (bs x.sig)] 31))) := Lib.hid (iok_gl HI.out (gl_alloc (gl_refl _ _) _))
 have HL1 : Hid (GL [] w (w.alloc (.cells #[.int .i64 x.am, .int .i64 x.st, .string (bs x.hash), .string (bs x.payee), .string (bs x.memo), .int .i64 x.ex, .int .i64 x.de, .string (bs x.sig)] 31))) := Lib.hid (gl_alloc (gl_refl _ _) _)
 generalize w.alloc (.cells #[.int .i64 x.am, .int .i64 x.st, .string (bs x.hash), .string (bs x.payee), .string (bs x.memo), .int .i64 x.ex, .int .i64 x.de, .string (bs x.sig)] 31) = w1 at *
 refine (show Calls Tryz.prog 14 #[invV x] w1 _ from lSize x HX.out w1).mono ?_
 rintro e w2 ⟨rfl, hb2⟩
 have HB2 := Lib.hid (blk_below HB1.out hb2 (blk_lt HB1.out))
 have HI2 := Lib.hid (iok_below HI1.out hb2)
 have HL2 : Hid (GL [] w w2) := Lib.hid (gl_below hb2 HL1.out)
 clear hb2 HB1 HI1 HL1
 by_cases hz : 3000 < sizeI x
 · have hz1 : (3000 : Int) < sizeI x := by omega
   clear hz
   generalize sizeI x = sz at *
   go_wp2_with fail
   refine (lWorksI _ HI2.out).mono ?_
   rintro e wz ⟨rfl, hbz⟩
   go_wp2_with fail
   exact bodyPost_ret (v := .bool true) (by simp [results, Tryz.results4, go_sem]) rfl ⟨rfl, gl_to_below (gl_below hbz HL2.out)⟩
 · have hz1 : (sizeI x : Int) ≤ 3000 := by omega
   have HOK := Lib.hid (inv_small HX.out om_)
   clear hz
   generalize sizeI x = sz at *
   have f2 := blk_cell HB2.out
   go_wp2_with fail
   refine (show Calls Tryz.prog 15 #[invV x] w2 _ from iBody x HOK.out w2 HI2.out).mono ?_
   rintro e w3 ⟨rfl, hb3⟩
   have HB3 := Lib.hid (blk_below HB2.out hb3 (blk_lt HB2.out))
   have HI3 := Lib.hid (iok_below HI2.out hb3)
   have HL3 : Hid (GL [] w w3) := Lib.hid (gl_below hb3 HL2.out)
   clear hb3 HB2 HI2 HL2 f2
   have f3 := blk_cell HB3.out
   go_wp2_with fail
   refine (show Calls Tryz.prog 16 #[invV x] w3 _ from ref7Body x HOK.out w3).mono ?_
   rintro e w4 ⟨rfl, hb4⟩
   have HB4 := Lib.hid (blk_below HB3.out hb4 (blk_lt HB3.out))
   have HI4 := Lib.hid (iok_below HI3.out hb4)
   have HL4 : Hid (GL [] w w4) := Lib.hid (gl_below hb4 HL3.out)
   clear hb4 HB3 HI3 HL3 f3
   have f4 := blk_cell HB4.out
   go_wp2_with fail
   refine (show Calls Tryz.prog 17 #[invV x] w4 _ from iEncode x HOK.out w4 HI4.out).mono ?_
   rintro e w5 ⟨rfl, hb5⟩
   have HB5 := Lib.hid (blk_below HB4.out hb5 (blk_lt HB4.out))
   have HI5 := Lib.hid (iok_below HI4.out hb5)
   have HL5 : Hid (GL [] w w5) := Lib.hid (gl_below hb5 HL4.out)
   clear hb5 HB4 HI4 HL4 f4
   have f5 := blk_cell HB5.out
   go_wp2_with fail
   refine (show Calls Tryz.prog 18 #[invV x] w5 _ from ref7Encode x HOK.out w5).mono ?_
   rintro e w6 ⟨rfl, hb6⟩
   have HB6 := Lib.hid (blk_below HB5.out hb6 (blk_lt HB5.out))
   have HI6 := Lib.hid (iok_below HI5.out hb6)
   have HL6 : Hid (GL [] w w6) := Lib.hid (gl_below hb6 HL5.out)
   clear hb6 HB5 HI5 HL5 f5
   have f6 := blk_cell HB6.out
   generalize bodyR x = br
   generalize bodyE x = be
   generalize encIR x = er
   generalize encIE x = ee
   go_wp2_with fail
   refine (lWorksI _ (by first | exact HI6.out | exact iok_gl HI6.out (gl_drew (gl_refl _ _)) | exact iok_gl HI6.out (gl_drewN (gl_refl _ _) _))).mono ?_
   rintro e wz ⟨rfl, hbz⟩
   go_wp2_with fail
   exact bodyPost_ret (v := .bool true) (by simp [results, Tryz.results4, go_sem]) rfl ⟨rfl, gl_to_below (gl_below hbz (by first | exact HL6.out | exact gl_drew HL6.out | exact gl_drewN HL6.out _))⟩
end Go.Proofs.YtembdkodajichaaGreatDoor
