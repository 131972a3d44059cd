/- Amounts' texts: the library's words for the plain ones. -/
import Derived.Test.YtembdkodajichaaGreatDoorAmtP
import Derived.Lib.ParseIntB
import Derived.Lib.SlTrimSet
import Derived.Lib.Strings
set_option linter.unusedSimpArgs false
set_option linter.unusedVariables false
namespace Go.Proofs.YtembdkodajichaaGreatDoor
open Go.RowKit
theorem u8_every {p : UInt8 → Prop} (h : ∀ c : Fin 256, p (UInt8.ofNat c.val)) (c : UInt8) : p c := by
 have := h ⟨c.toNat, c.toNat_lt⟩
 simpa using this
theorem nm_contains (c : UInt8) : [109, 117, 110, (112 : UInt8)].contains c = nmB c := u8_every (p := fun c => [109, 117, 110, (112 : UInt8)].contains c = nmB c) (by decide +kernel) c
theorem dg_contains (c : UInt8) : [48, 49, 50, 51, 52, 53, 54, 55, 56, (57 : UInt8)].contains c = isDg c := u8_every (p := fun c => [48, 49, 50, 51, 52, 53, 54, 55, 56, (57 : UInt8)].contains c = isDg c) (by decide +kernel) c
theorem trim_munp (s : List UInt8) : Lib.trimRightS s [109, 117, 110, 112] = trimR s := by
 unfold Lib.trimRightS trimR
 congr 2
 funext c
 exact nm_contains c
theorem dw_nil {p : UInt8 → Bool} : ∀ (l : List UInt8), l.dropWhile p = [] ↔ ∀ x ∈ l, p x = true
 | [] => by simp
 | a :: r => by
   rw [List.dropWhile_cons]
   cases h : p a with
   | true => simp [h, dw_nil r]
   | false => simp [h]
theorem trim_dg (d : List UInt8) : (Lib.trimS d [48, 49, 50, 51, 52, 53, 54, 55, 56, 57] = []) = (d.all isDg = true) := by
 have e : (fun c => [48, 49, 50, 51, 52, 53, 54, 55, 56, (57 : UInt8)].contains c) = isDg := funext dg_contains
 unfold Lib.trimS Lib.trimLeftS Lib.trimRightS
 rw [e, eq_iff_iff, dw_nil]
 constructor
 · intro h
   have hc : d = (d.reverse.dropWhile isDg).reverse ++ (d.reverse.takeWhile isDg).reverse := by
    rw [← List.reverse_append, List.takeWhile_append_dropWhile, List.reverse_reverse]
   rw [List.all_eq_true]
   intro x hx
   rw [hc] at hx
   rcases List.mem_append.1 hx with hx | hx
   · exact h x hx
   · exact List.all_eq_true.1 (List.all_takeWhile (p := isDg) (l := d.reverse)) x (List.mem_reverse.1 hx)
 · intro h x hx
   have h2 : d.reverse.dropWhile isDg = [] := (dw_nil _).2 fun y hy => List.all_eq_true.1 h y (List.mem_reverse.1 hy)
   rw [h2] at hx
   cases hx
def decA (a : Nat) (l : List UInt8) : Nat := l.foldl (fun n c => n * 10 + (c.toNat - 48)) a
theorem decA_ge : ∀ (l : List UInt8) (a : Nat), a ≤ decA a l
 | [], a => Nat.le_refl _
 | c :: r, a => by
   have := decA_ge r (a * 10 + (c.toNat - 48))
   show a ≤ decA (a * 10 + (c.toNat - 48)) r
   omega
theorem pum_dg : ∀ (l : List UInt8) (a : Nat), l.all isDg = true → a ≤ 18446744073709551615 → Lib.parseUintM 18446744073709551615 a l = if decA a l ≤ 18446744073709551615 then .ok (decA a l) else .range
 | [], a, _, ha => by
   show Lib.NumEnd.ok a = _
   rw [if_pos (show decA a [] ≤ _ from ha)]
   rfl
 | c :: r, a, h, ha => by
   rw [List.all_cons, Bool.and_eq_true] at h
   have hc : 48 ≤ c.toNat ∧ c.toNat ≤ 57 := by simpa [isDg] using h.1
   have hg := decA_ge r (a * 10 + (c.toNat - 48))
   have e : decA a (c :: r) = decA (a * 10 + (c.toNat - 48)) r := rfl
   rw [Lib.parseUintM, if_pos hc, e]
   split
   · rw [if_neg om_]
   · split
     · rw [if_neg om_]
     · exact pum_dg r _ h.2 om_
theorem parse_dg (d : List UInt8) (h : d.all isDg = true) (h0 : d ≠ []) : Lib.parseIntB 64 d = if decV d ≤ 9223372036854775807 then .ok (decV d : Nat) else .range := by
 cases d with
 | nil => exact absurd rfl h0
 | cons c r =>
   have hc : 48 ≤ c.toNat ∧ c.toNat ≤ 57 := by
    rw [List.all_cons, Bool.and_eq_true] at h
    simpa [isDg] using h.1
   have hp := pum_dg (c :: r) 0 h om_
   have e : decA 0 (c :: r) = decV (c :: r) := rfl
   rw [e] at hp
   unfold Lib.parseIntB
   simp only
   rw [if_neg om_]
   unfold Lib.parseUintB
   rw [if_neg h0, show 2 ^ 64 - 1 = 18446744073709551615 by decide, hp]
   have h45 : ¬ c.toNat = 45 := by omega
   by_cases h1 : decV (c :: r) ≤ 18446744073709551615
   · rw [if_pos h1]
     simp only [h45, not_false_eq_true, true_and, false_and, if_false]
     by_cases h2 : decV (c :: r) ≤ 9223372036854775807
     · rw [if_pos h2, if_neg om_]
     · rw [if_neg h2, if_pos om_]
   · rw [if_neg h1, if_neg om_]
theorem ends_drop (d : List UInt8) (h : endsW d [48] = true) : d.take (d.length - 1) = d.dropLast := by rw [List.dropLast_eq_take]
theorem trimR_len (s : List UInt8) : (trimR s).length ≤ s.length := by
 obtain ⟨nm, h, _⟩ := trimR_cut s
 have := congrArg List.length h
 rw [List.length_append] at this
 omega
theorem nm_cases (s : List UInt8) (h : (s.drop (trimR s).length).length ≤ 1) : s.drop (trimR s).length = [] ∨ s.drop (trimR s).length = [109] ∨ s.drop (trimR s).length = [117] ∨ s.drop (trimR s).length = [110] ∨ s.drop (trimR s).length = [112] := by
 obtain ⟨nm, e, hn⟩ := trimR_cut s
 have hd : s.drop (trimR s).length = nm := by
  have := congrArg (List.drop (trimR s).length) e
  rw [List.drop_left] at this
  exact this
 rw [hd] at h ⊢
 match nm, h with
 | [], _ => exact .inl rfl
 | [c], _ =>
   have := hn c si_
   unfold nmB at this
   simp only [Bool.or_eq_true, beq_iff_eq] at this
   rcases this with ((h | h) | h) | h <;> subst h <;> simp
end Go.Proofs.YtembdkodajichaaGreatDoor
