/- The program's invoices: numbers and texts read. -/
import Derived.Test.YtembdkodajichaaGreatDoorInvR
set_option maxRecDepth 100000
set_option maxHeartbeats 4000000
set_option linter.unusedSimpArgs false
set_option linter.unusedVariables false
namespace Go.Proofs.YtembdkodajichaaGreatDoor
open Go.RowKit
def NumO (l : List UInt8) (w : World) (e : Ending) (w' : World) : Prop := w' = w ∧ e = if 7 < l.length then .panicked [oddP] else .returned (.int .i64 (valB 32 l : Nat))
theorem or_num (V x : Nat) (hV : V < 1073741824) (hx : x < 32) : bits .or .i64 ((V : Int) * 32) (x : Int) = ((V * 32 + x : Nat) : Int) := by
 have h := or_i64 (V * 32) x om_ om_
 have e := or_shift V x 5 om_
 rw [show V * 2 ^ 5 = V * 32 by omega] at e
 rw [e] at h
 rw [← h]
 congr 1
theorem iNumber (l : List UInt8) (p : Option Addr) (ad : Option Addr) (n c : Nat) (w : World) (hin : InAt (.slice ad n c) l w) (h32 : ∀ x ∈ l, x.toNat < 32) (hl : l.length ≤ 1000000000) :
  Calls Tryz.prog 102 #[.pointer p, .slice ad n c] w (NumO l w) := by
 have hn : n = l.length := by
  obtain ⟨a', c', e, hc', hb⟩ := inAt_form hin
  injection e
 subst hn
 by_cases h7 : 7 < l.length
 · have HE : Hid (∀ w' e, w' = w → e = .panicked [oddP] → NumO l w e w') := Lib.hid (fun w' e h1 h2 => ⟨h1, by rw [if_pos h7]; exact h2⟩)
   have n1 : (7 : Int) < l.length := by omega
   clear h7 hin
   go_enter Tryz.func102, Tryz.ntmps102
   go_wp2_with fail
   exact ⟨rfl, HE.out _ _ rfl rfl⟩
 · have HE : Hid (∀ w' v, w' = w → v = (valB 32 l : Nat) → NumO l w (.returned (.int .i64 v)) w') := Lib.hid (fun w' e h1 h2 => ⟨h1, by rw [if_neg h7, h2]⟩)
   have n1 : (l.length : Int) ≤ 7 := by omega
   have HIN := Lib.hid hin
   clear h7 hin
   go_enter Tryz.func102, Tryz.ntmps102
   go_wp2_with fail
   go_loopw [4, 6, 14] (fun nv _ iv wr => ∃ i : Nat, i ≤ l.length ∧ iv = .int .i64 i ∧ nv = .int .i64 (valB 32 (l.take i) : Nat) ∧ Hid (wr = w)) (fun _ _ iv _ => l.length - (intOf iv).toNat)
   case atStart => exact ⟨0, by omega, rfl, by simp [valB_nil], Lib.hid rfl⟩
   case round =>
    obtain ⟨i, hi, rfl, rfl, hw⟩ := hrel
    have hww := hw.out
    subst hww
    by_cases hlt : i < l.length
    · have i1 : (i : Int) < l.length := by omega
      obtain ⟨G, o, rfl, _, hj⟩ := byteAt HIN.out (by intro h; rw [h] at hlt; simp at hlt)
      have hx := h32 (l.getD i 0) (by rw [List.getD_eq_getElem?_getD, List.getElem?_eq_getElem hlt]; exact List.getElem_mem hlt)
      have cj := hj i hlt
      have HV := Lib.hid (valB_take 32 l i hlt)
      have hV : valB 32 (l.take i) < 1073741824 := by
       have := valB_lt (b := 32) (l.take i) (fun x hx => h32 x (List.mem_of_mem_take hx))
       have h2 : (l.take i).length ≤ 6 := by rw [List.length_take]; omega
       exact Nat.lt_of_lt_of_le this (Nat.le_trans (Nat.pow_le_pow_right om_ h2) de_)
      have hor := or_num _ _ hV hx
      generalize valB 32 (l.take i) = V at *
      generalize (l.getD i 0).toNat = x at *
      clear hj
      go_wp2_with fail
      exact ⟨⟨i + 1, by omega, by go_num, by rw [HV.out]; go_num, Lib.hid trivial⟩, by simp [intOf]; omega⟩
    · obtain rfl : i = l.length := by omega
      have HT : Hid (valB 32 (l.take l.length) = valB 32 l) := Lib.hid (by rw [List.take_length])
      generalize valB 32 (l.take l.length) = V at *
      clear hlt
      go_wp2_with fail
      exact bodyPost_ret (v := .int .i64 (V : Nat)) (by simp [results, Tryz.results102, go_sem]) rfl (HE.out _ _ rfl (by rw [HT.out]))
def DgtO (R : Nat) (o : Option (Nat × List UInt8)) (w : World) (e : Ending) (w' : World) : Prop :=
 GL [R] w w' ∧ match o with
 | none => e = .panicked [oddP]
 | some (n, r) => e = .returned (.int .i64 (n : Nat)) ∧ RAt R r w'
theorem dgtO_none {R : Nat} {o : Option (Nat × List UInt8)} {w w' : World} (h : o = none) (hg : GL [R] w w') : DgtO R o w (.panicked [oddP]) w' := by
 subst h; exact ⟨hg, rfl⟩
theorem dgtO_some {R : Nat} {o : Option (Nat × List UInt8)} {w w' : World} {n : Nat} {r : List UInt8} {v : Int} (h : o = some (n, r)) (hg : GL [R] w w') (hv : v = n) (h2 : RAt R r w') : DgtO R o w (.returned (.int .i64 v)) w' := by
 subst h hv; exact ⟨hg, rfl, h2⟩
theorem head_zero (l : List UInt8) (h : l ≠ []) : (l.head? = some 0) = ((l.getD 0 0).toNat = 0) := by
 cases l with
 | nil => exact absurd rfl h
 | cons a r =>
   simp only [List.head?_cons, Option.some.injEq, List.getD_cons_zero, eq_iff_iff]
   constructor
   · rintro rfl; rfl
   · intro h; exact UInt8.toNat_inj.1 (by simpa using h)
theorem fieldR_len {tag : UInt8} {l a r : List UInt8} (h : fieldR tag l = some (a, r)) (h32 : ∀ x ∈ l, x.toNat < 32) : a.length + r.length ≤ l.length ∧ (∀ x ∈ a, x.toNat < 32) ∧ (∀ x ∈ r, x.toNat < 32) := by
 obtain ⟨rfl, _⟩ := fieldR_some h h32
 refine ⟨by simp [fieldW]; omega, fun x hx => h32 x ?_, fun x hx => h32 x ?_⟩ <;> simp [fieldW, hx]
theorem iDigits (R : Nat) (tag : UInt8) (T : Int) (hT : T = tag.toNat) (l : List UInt8) (w : World) (h : RAt R l w) (hl : l.length ≤ 1000000000) (h32 : ∀ x ∈ l, x.toNat < 32) :
  Calls Tryz.prog 105 #[.pointer (some ⟨R, 0, none⟩), .int .u8 T] w (DgtO R (digitsR tag l) w) := by
 subst hT
 have HH := Lib.hid h
 clear h
 cases hf : fieldR tag l with
 | none =>
   have HF := Lib.hid hf
   have HD : Hid (digitsR tag l = none) := Lib.hid (by unfold digitsR; rw [hf]; rfl)
   clear hf
   go_enter Tryz.func105, Tryz.ntmps105
   go_wp2_with fail
   refine (iField R tag l _ HH.out hl h32).mono ?_
   rintro e w1 ⟨hg, hp⟩
   rw [HF.out] at hp
   have hp : e = .panicked [oddP] := hp
   subst hp
   go_wp2_with fail
   exact ⟨rfl, dgtO_none HD.out hg⟩
 | some ar =>
   obtain ⟨a, r⟩ := ar
   obtain ⟨h1, h2, h3⟩ := fieldR_len hf h32
   have HF := Lib.hid hf
   have HD : Hid (digitsR tag l = if a.head? = some 0 ∨ 7 < a.length then none else some (valB 32 a, r)) := Lib.hid (by unfold digitsR; rw [hf]; rfl)
   have hal : a.length ≤ 1000000000 := by omega
   clear hf
   go_enter Tryz.func105, Tryz.ntmps105
   go_wp2_with fail
   refine (iField R tag l _ HH.out hl h32).mono ?_
   rintro e w1 ⟨hg, hp⟩
   rw [HF.out] at hp
   obtain ⟨ad, c, rfl, hin, hr⟩ := hp
   have HG := Lib.hid hg
   have HR := Lib.hid hr
   have HIN := Lib.hid hin
   clear hg hr hin
   by_cases ha : a = []
   · subst ha
     rw [if_neg si_] at HD
     go_wp2_with fail
     refine (iNumber [] _ _ _ _ _ HIN.out si_ si_).mono ?_
     rintro e w2 ⟨rfl, he⟩
     rw [if_neg si_] at he
     subst he
     go_wp2_with fail
     exact bodyPost_ret (v := .int .i64 (valB 32 [] : Nat)) (by simp [results, Tryz.results105, go_sem]) rfl (dgtO_some HD.out HG.out rfl HR.out)
   · obtain ⟨G, o, rfl, _, hj⟩ := byteAt HIN.out ha
     have hpos := List.length_pos_iff.2 ha
     have c0 := hj 0 hpos
     rw [Nat.add_zero] at c0
     have a1 : (0 : Int) < a.length := by omega
     have HD : Hid (digitsR tag l = if (a.getD 0 0).toNat = 0 ∨ 7 < a.length then none else some (valB 32 a, r)) := Lib.hid (by rw [HD.out]; simp only [head_zero a ha])
     generalize (a.getD 0 0).toNat = x at *
     clear hj
     by_cases hx : x = 0
     · subst hx
       rw [if_pos (.inl rfl)] at HD
       go_wp2_with fail
       exact ⟨rfl, dgtO_none HD.out HG.out⟩
     · have hx1 : (((x : Nat) : Int) == 0) = false := by simp; omega
       have HX : Hid (x ≠ 0) := Lib.hid hx
       clear hx
       go_wp2_with fail
       refine (iNumber a _ _ _ _ _ HIN.out h2 hal).mono ?_
       rintro e w2 ⟨rfl, he⟩
       by_cases h7 : 7 < a.length
       · rw [if_pos h7] at he
         rw [if_pos (.inr h7)] at HD
         subst he
         clear h7
         go_wp2_with fail
         exact ⟨rfl, dgtO_none HD.out HG.out⟩
       · rw [if_neg h7] at he
         rw [if_neg (by simp only [not_or]; exact ⟨HX.out, h7⟩)] at HD
         subst he
         clear h7
         go_wp2_with fail
         exact bodyPost_ret (v := .int .i64 (valB 32 a : Nat)) (by simp [results, Tryz.results105, go_sem]) rfl (dgtO_some HD.out HG.out rfl HR.out)
def TxtO (R : Nat) (o : Option (List UInt8 × List UInt8)) (w : World) (e : Ending) (w' : World) : Prop :=
 GL [R] w w' ∧ match o with
 | none => e = .panicked [oddP]
 | some (n, r) => e = .returned (.string (bs n)) ∧ RAt R r w'
theorem txtO_none {R : Nat} {o : Option (List UInt8 × List UInt8)} {w w' : World} (h : o = none) (hg : GL [R] w w') : TxtO R o w (.panicked [oddP]) w' := by
 subst h; exact ⟨hg, rfl⟩
theorem txtO_some {R : Nat} {o : Option (List UInt8 × List UInt8)} {w w' : World} {n r : List UInt8} (h : o = some (n, r)) (hg : GL [R] w w') (h2 : RAt R r w') : TxtO R o w (.returned (.string (bs n))) w' := by
 subst h; exact ⟨hg, rfl, h2⟩
theorem rAt_below {R : Nat} {l : List UInt8} {w w' : World} (h : RAt R l w) (hg : Below w.heap.size w w') : RAt R l w' := rAt_gl h (gl_below hg (gl_refl _ _))
theorem iText (R : Nat) (tag : UInt8) (T : Int) (hT : T = tag.toNat) (l : List UInt8) (w : World) (h : RAt R l w) (hl : l.length ≤ 100000000) (h32 : ∀ x ∈ l, x.toNat < 32) :
  Calls Tryz.prog 104 #[.pointer (some ⟨R, 0, none⟩), .int .u8 T] w (TxtO R (txtR tag l) w) := by
 subst hT
 have HH := Lib.hid h
 clear h
 cases hf : fieldR tag l with
 | none =>
   have HF := Lib.hid hf
   have HD : Hid (txtR tag l = none) := Lib.hid (by unfold txtR; rw [hf]; rfl)
   clear hf
   go_enter Tryz.func104, Tryz.ntmps104
   go_wp2_with fail
   refine (iField R tag l _ HH.out om_ h32).mono ?_
   rintro e w1 ⟨hg, hp⟩
   rw [HF.out] at hp
   have hp : e = .panicked [oddP] := hp
   subst hp
   go_wp2_with fail
   exact ⟨rfl, txtO_none HD.out hg⟩
 | some ar =>
   obtain ⟨a, r⟩ := ar
   obtain ⟨h1, h2, h3⟩ := fieldR_len hf h32
   have HF := Lib.hid hf
   have HD : Hid (txtR tag l = (bitsP 5 8 false a).bind fun b => some (b, r)) := Lib.hid (by unfold txtR; rw [hf]; rfl)
   have hal : a.length ≤ 100000000 := by omega
   clear hf
   go_enter Tryz.func104, Tryz.ntmps104
   go_wp2_with fail
   refine (iField R tag l _ HH.out om_ h32).mono ?_
   rintro e w1 ⟨hg, hp⟩
   rw [HF.out] at hp
   obtain ⟨ad, c, rfl, hin, hr⟩ := hp
   have HG := Lib.hid hg
   have HR := Lib.hid hr
   have HIN := Lib.hid hin
   clear hg hr hin
   go_wp2_with fail
   refine (bBits58 a _ _ HIN.out hal).mono ?_
   rintro e w2 ⟨he, hb⟩
   have HG2 : Hid (GL [R] w w2) := Lib.hid (gl_below hb HG.out)
   have HR2 := Lib.hid (rAt_below HR.out hb)
   cases hq : bitsP 5 8 false a with
   | none =>
     rw [hq] at he HD
     have he : e = .returned (.tuple #[.slice none 0 0, .int .i64 50]) := he
     subst he
     clear hq hb
     go_wp2_with fail
     exact ⟨rfl, txtO_none HD.out HG2.out⟩
   | some b =>
     rw [hq] at he HD
     obtain ⟨ad2, c2, rfl, hown⟩ := he
     have hcv := run_back 9 Tryz.underlying9 _ b w2 (ownB_in hown).1
     clear hq hb hown
     go_wp2_with fail
     exact bodyPost_ret (v := .string (bs b)) (by simp [results, Tryz.results104, go_sem]) rfl (txtO_some HD.out HG2.out HR2.out)
end Go.Proofs.YtembdkodajichaaGreatDoor
