/- Amounts' texts, plain: written and read, there and back. -/
import Derived.Test.YtembdkodajichaaGreatDoorDecP
set_option linter.unusedSimpArgs false
set_option linter.unusedVariables false
namespace Go.Proofs.YtembdkodajichaaGreatDoor
open Go.RowKit
def maxMoney : Nat := 2100000000000000000
def unitL : List (List UInt8 × Nat) := [([], 100000000000), ([109], 100000000), ([117], 100000), ([110], 100)]
def amtGo (m : Nat) : List (List UInt8 × Nat) → List UInt8
 | [] => Lib.decDigits m ++ [48, 112]
 | (nm, u) :: r => if m % u = 0 then Lib.decDigits (m / u) ++ nm else amtGo m r
def amountE (m : Int) : Int := if m < 0 ∨ (maxMoney : Int) < m then 40 else 0
def amountT (m : Int) : List UInt8 := if m < 0 ∨ (maxMoney : Int) < m ∨ m = 0 then [] else amtGo m.toNat unitL
def nmB (c : UInt8) : Bool := c == 109 || c == 117 || c == 110 || c == 112
def trimR (s : List UInt8) : List UInt8 := (s.reverse.dropWhile nmB).reverse
def unitOf (nm : List UInt8) : Nat := if nm = [] then 100000000000 else if nm = [109] then 100000000 else if nm = [117] then 100000 else if nm = [110] then 100 else 1
def endsW (l z : List UInt8) : Bool := z.isSuffixOf l
theorem unit_pos (nm : List UInt8) : 0 < unitOf nm := by
 unfold unitOf
 repeat' split
 all_goals omega
def coreD (d nm : List UInt8) : List UInt8 := if nm = [112] then d.dropLast else d
def readG (d nm : List UInt8) : Int × Int :=
 if d = [] ∨ d.all isDg = false ∨ head d = 48 ∨ 1 < nm.length ∨ (nm ≠ [] ∧ endsW d [48, 48, 48] = true) then (0, 70)
 else if nm = [112] ∧ endsW d [48] = false then (0, 70)
 else if maxMoney / unitOf nm < decV (coreD d nm) then (0, 40)
 else (((decV (coreD d nm) * unitOf nm : Nat) : Int), 0)
def readV (s : List UInt8) : Int × Int := if s = [] then (0, 0) else readG (trimR s) (s.drop (trimR s).length)
theorem dropWhile_app (p : UInt8 → Bool) (a b : List UInt8) (ha : ∀ x ∈ a, p x = true) (hb : ∀ x r, b = x :: r → p x = false) : (a ++ b).dropWhile p = b := by
 induction a with
 | nil =>
   cases b with
   | nil => rfl
   | cons x r => rw [List.nil_append, List.dropWhile_cons, if_neg (by rw [hb x r rfl]; simp)]
 | cons y a ih =>
   rw [List.cons_append, List.dropWhile_cons, if_pos (ha y si_), ih (fun x hx => ha x (by simp [hx]))]
theorem trimR_app (d nm : List UInt8) (hd : d.all isDg = true) (hn : ∀ x ∈ nm, nmB x = true) : trimR (d ++ nm) = d := by
 unfold trimR
 rw [List.reverse_append, dropWhile_app nmB nm.reverse d.reverse (fun x hx => hn x (by simpa using hx)), List.reverse_reverse]
 intro x r hx
 have hm : x ∈ d := by
  have : x ∈ d.reverse := by rw [hx]; simp
  simpa using this
 have hdx := List.all_eq_true.1 hd x hm
 unfold isDg at hdx
 simp only [Bool.and_eq_true, decide_eq_true_eq] at hdx
 unfold nmB
 simp only [Bool.or_eq_false_iff, beq_eq_false_iff_ne, ne_eq, ← UInt8.toNat_inj]
 simp
 omega
theorem trimR_cut (s : List UInt8) : ∃ nm, s = trimR s ++ nm ∧ (∀ x ∈ nm, nmB x = true) := by
 refine ⟨(s.reverse.takeWhile nmB).reverse, ?_, ?_⟩
 · unfold trimR
   rw [← List.reverse_append, List.takeWhile_append_dropWhile, List.reverse_reverse]
 · intro x hx
   have hx := List.mem_reverse.1 hx
   exact List.all_eq_true.1 (List.all_takeWhile (p := nmB) (l := s.reverse)) x hx
theorem readV_app (d nm : List UInt8) (hd : d.all isDg = true) (hn : ∀ x ∈ nm, nmB x = true) (h0 : d ++ nm ≠ []) : readV (d ++ nm) = readG d nm := by
 unfold readV
 rw [if_neg h0, trimR_app d nm hd hn, List.drop_left]
theorem dg_val {c : UInt8} (h : isDg c = true) : c.toNat = 48 + (c.toNat - 48) ∧ c.toNat - 48 < 10 := by
 unfold isDg at h
 simp only [Bool.and_eq_true, decide_eq_true_eq] at h
 omega
theorem ends_one (l : List UInt8) (c : UInt8) (hc : isDg c = true) : endsW (l ++ [c]) [48] = decide (decV (l ++ [c]) % 10 = 0) := by
 have h := dg_val hc
 rw [decV_snoc]
 unfold endsW
 rw [Bool.eq_iff_iff, List.isSuffixOf_iff_suffix, decide_eq_true_eq]
 constructor
 · intro hs
   have h2 := List.suffix_iff_eq_drop.1 hs
   simp at h2
   rw [← h2]
   simp
 · intro hm
   have : c = 48 := UInt8.toNat_inj.1 (by
    show c.toNat = 48
    omega)
   rw [this]
   exact ⟨l, rfl⟩
theorem ends_three (d : List UInt8) (hd : d.all isDg = true) (h0 : d ≠ []) (hh : head d ≠ 48) : endsW d [48, 48, 48] = decide (decV d % 1000 = 0) := by
 have hb := dec_back d d.length rfl h0 hd (.inr hh)
 rw [Bool.eq_iff_iff, decide_eq_true_eq]
 unfold endsW
 rw [List.isSuffixOf_iff_suffix]
 constructor
 · rintro ⟨l, rfl⟩
   rw [show l ++ [48, 48, 48] = ((l ++ [48]) ++ [48]) ++ [48] by simp, decV_snoc, decV_snoc, decV_snoc]
   simp
   omega
 · intro hm
   have hv := hb.2.2 hh
   rcases (show d.length < 3 ∨ 3 ≤ d.length by omega) with hl | hl
   · exfalso
     match d, h0, hl with
     | [a], _, _ =>
       have ha := dg_val (List.all_eq_true.1 hd a si_)
       simp [decV] at hm hv
       omega
     | [a, b], _, _ =>
       have ha := dg_val (List.all_eq_true.1 hd a si_)
       have hb := dg_val (List.all_eq_true.1 hd b si_)
       simp [decV] at hm hv
       omega
   · obtain ⟨l, a, b, c, rfl⟩ : ∃ l a b c, d = l ++ [a, b, c] := by
      have h3 : (d.drop (d.length - 3)).length = 3 := by simp; omega
      match hq : d.drop (d.length - 3), h3 with
      | [a, b, c], _ => exact ⟨d.take (d.length - 3), a, b, c, by rw [← hq, List.take_append_drop]⟩
     have ha := dg_val (List.all_eq_true.1 hd a si_)
     have hb := dg_val (List.all_eq_true.1 hd b si_)
     have hc := dg_val (List.all_eq_true.1 hd c si_)
     rw [show l ++ [a, b, c] = ((l ++ [a]) ++ [b]) ++ [c] by simp, decV_snoc, decV_snoc, decV_snoc] at hm
     have e1 : a = 48 := UInt8.toNat_inj.1 (by show a.toNat = 48; omega)
     have e2 : b = 48 := UInt8.toNat_inj.1 (by show b.toNat = 48; omega)
     have e3 : c = 48 := UInt8.toNat_inj.1 (by show c.toNat = 48; omega)
     subst e1 e2 e3
     exact ⟨l, rfl⟩
structure AmtOf (n : Nat) (d nm : List UInt8) : Prop where
 dg : d.all isDg = true
 ne : d ≠ []
 head : head d ≠ 48
 un : nm = [] ∨ nm = [109] ∨ nm = [117] ∨ nm = [110] ∨ nm = [112]
 no000 : nm ≠ [] → decV d % 1000 ≠ 0
 val : n * (if nm = [112] then 10 else 1) = decV d * unitOf nm
theorem amt_of (n : Nat) (h0 : 0 < n) : ∃ d nm, amtGo n unitL = d ++ nm ∧ AmtOf n d nm := by
 unfold unitL
 simp only [amtGo]
 by_cases h1 : n % 100000000000 = 0
 · rw [if_pos h1]
   have hd := dec_dg (n / 100000000000)
   exact ⟨_, [], rfl, hd.1, hd.2.2.1, hd.2.2.2.2 om_, .inl rfl, fun h => absurd rfl h, by rw [hd.2.1]; simp [unitOf]; omega⟩
 rw [if_neg h1]
 by_cases h2 : n % 100000000 = 0
 · rw [if_pos h2]
   have hd := dec_dg (n / 100000000)
   exact ⟨_, [109], rfl, hd.1, hd.2.2.1, hd.2.2.2.2 om_, .inr (.inl rfl), fun _ => by rw [hd.2.1]; omega, by rw [hd.2.1]; simp [unitOf]; omega⟩
 rw [if_neg h2]
 by_cases h3 : n % 100000 = 0
 · rw [if_pos h3]
   have hd := dec_dg (n / 100000)
   exact ⟨_, [117], rfl, hd.1, hd.2.2.1, hd.2.2.2.2 om_, .inr (.inr (.inl rfl)), fun _ => by rw [hd.2.1]; omega, by rw [hd.2.1]; simp [unitOf]; omega⟩
 rw [if_neg h3]
 by_cases h4 : n % 100 = 0
 · rw [if_pos h4]
   have hd := dec_dg (n / 100)
   exact ⟨_, [110], rfl, hd.1, hd.2.2.1, hd.2.2.2.2 om_, .inr (.inr (.inr (.inl rfl))), fun _ => by rw [hd.2.1]; omega, by rw [hd.2.1]; simp [unitOf]; omega⟩
 rw [if_neg h4]
 have hd := dec_dg n
 have hv : decV (Lib.decDigits n ++ [48]) = n * 10 := by rw [decV_snoc, hd.2.1]; simp
 refine ⟨Lib.decDigits n ++ [48], [112], by simp, ?_, by simp, ?_, .inr (.inr (.inr (.inr rfl))), fun _ => by rw [hv]; omega, by rw [hv]; simp [unitOf]⟩
 · rw [List.all_append, hd.1]; rfl
 · have h5 := hd.2.2.2.2 h0
   cases hq : Lib.decDigits n with
   | nil => exact absurd hq hd.2.2.1
   | cons a b => rw [hq] at h5; exact h5
theorem amt_only (n : Nat) (d nm : List UInt8) (h : AmtOf n d nm) : amtGo n unitL = d ++ nm := by
 have hb := (dec_back d d.length rfl h.ne h.dg (.inr h.head)).1
 have hv := h.val
 unfold unitL
 simp only [amtGo]
 rcases h.un with e | e | e | e | e
 · subst e
   simp [unitOf] at hv
   rw [if_pos om_, show n / 100000000000 = decV d by omega, hb]
 · subst e
   have h0 := h.no000 si_
   simp [unitOf] at hv
   rw [if_neg om_, if_pos om_, show n / 100000000 = decV d by omega, hb]
 · subst e
   have h0 := h.no000 si_
   simp [unitOf] at hv
   rw [if_neg om_, if_neg om_, if_pos om_, show n / 100000 = decV d by omega, hb]
 · subst e
   have h0 := h.no000 si_
   simp [unitOf] at hv
   rw [if_neg om_, if_neg om_, if_neg om_, if_pos om_, show n / 100 = decV d by omega, hb]
 · subst e
   have h0 := h.no000 si_
   simp [unitOf] at hv
   rw [if_neg om_, if_neg om_, if_neg om_, if_neg om_]
   obtain ⟨l, c, rfl⟩ : ∃ l c, d = l ++ [c] := ⟨d.dropLast, d.getLast h.ne, (List.dropLast_concat_getLast h.ne).symm⟩
   have hdg := h.dg
   rw [List.all_append, Bool.and_eq_true] at hdg
   have hc := dg_val (by simpa using hdg.2)
   rw [decV_snoc] at hv
   have ec : c = 48 := UInt8.toNat_inj.1 (by show c.toNat = 48; omega)
   subst ec
   have hn : decV l = n := by simp at hv; omega
   have hl : l ≠ [] := by
    rintro rfl
    have := h.head
    simp [Go.Proofs.YtembdkodajichaaGreatDoor.head] at this
   have hh : Go.Proofs.YtembdkodajichaaGreatDoor.head l ≠ 48 := by
    have h5 := h.head
    cases l with
    | nil => exact absurd rfl hl
    | cons a b => exact h5
   have hb2 := (dec_back l l.length rfl hl hdg.1 (.inr hh)).1
   rw [← hn, hb2]
   simp
theorem nmB_of {nm : List UInt8} (h : nm = [] ∨ nm = [109] ∨ nm = [117] ∨ nm = [110] ∨ nm = [112]) : ∀ x ∈ nm, nmB x = true := by
 rcases h with rfl | rfl | rfl | rfl | rfl <;> simp [nmB]
theorem read_amount (a : Int) (h : amountE a = 0) : readV (amountT a) = (a, 0) := by
 unfold amountE at h
 split at h
 · cases h
 rename_i h1
 unfold amountT
 by_cases h0 : a = 0
 · subst h0
   rw [if_pos si_]
   rfl
 rw [if_neg om_]
 obtain ⟨d, nm, e, H⟩ := amt_of a.toNat om_
 rw [e, readV_app d nm H.dg (nmB_of H.un) (by simp [H.ne])]
 have hv := H.val
 have h3 := ends_three d H.dg H.ne H.head
 unfold readG
 rw [if_neg]
 · by_cases hp : nm = [112]
   · subst hp
     obtain ⟨l, c, rfl⟩ : ∃ l c, d = l ++ [c] := ⟨d.dropLast, d.getLast H.ne, (List.dropLast_concat_getLast H.ne).symm⟩
     have hdg := H.dg
     rw [List.all_append, Bool.and_eq_true] at hdg
     have hc : isDg c = true := by simpa using hdg.2
     have h4 := ends_one l c hc
     have hcv := dg_val hc
     simp [unitOf] at hv
     have h10 : decV (l ++ [c]) % 10 = 0 := by omega
     rw [h4, decide_eq_true h10, if_neg si_, show coreD (l ++ [c]) [112] = l by unfold coreD; rw [if_pos rfl, List.dropLast_concat]]
     rw [decV_snoc] at hv h10
     rw [if_neg (by simp [unitOf, maxMoney] at h1 ⊢; omega)]
     simp [unitOf]
     omega
   · rw [if_neg (fun h => hp h.1), show coreD d nm = d by unfold coreD; rw [if_neg hp]]
     rw [if_neg hp] at hv
     rw [if_neg]
     · rw [← hv]; simp; omega
     · intro hlt
       have hu := unit_pos nm
       have := (Nat.div_lt_iff_lt_mul hu).1 hlt
       rw [← hv] at this
       omega
 · rintro (h | h | h | h | h)
   · exact H.ne h
   · rw [H.dg] at h; cases h
   · exact H.head h
   · rcases H.un with e | e | e | e | e <;> subst e <;> simp at h
   · rw [h3, decide_eq_true_eq] at h
     exact H.no000 h.1 h.2
theorem amount_read (s : List UInt8) (n : Int) (h : readV s = (n, 0)) : amountE n = 0 ∧ amountT n = s := by
 by_cases hs : s = []
 · subst hs
   have : n = 0 := by
    unfold readV at h
    rw [if_pos rfl] at h
    exact (Prod.mk.inj h).1.symm
   subst this
   exact ⟨by simp [amountE, maxMoney], by simp [amountT]⟩
 unfold readV at h
 rw [if_neg hs] at h
 obtain ⟨nm, e, hn⟩ := trimR_cut s
 have hdrop : s.drop (trimR s).length = nm := by
  conv => lhs; rw [e]
  rw [List.drop_left' (by rw [← e])]
 rw [hdrop] at h
 generalize trimR s = d at *
 subst e
 unfold readG at h
 split at h
 · simp at h
 rename_i h1
 split at h
 · simp at h
 rename_i h2
 split at h
 · simp at h
 rename_i h3
 simp only [not_or, Bool.not_eq_false] at h1
 obtain ⟨hne, hdg, hhd, hln, h000⟩ := h1
 have hv := (Prod.mk.inj h).1
 have hnm : nm = [] ∨ nm = [109] ∨ nm = [117] ∨ nm = [110] ∨ nm = [112] := by
  match nm, hln, hn with
  | [], _, _ => exact .inl rfl
  | [x], _, hn =>
    have := hn x si_
    unfold nmB at this
    simp only [Bool.or_eq_true, beq_iff_eq] at this
    rcases this with ((rfl | rfl) | rfl) | rfl <;> simp
  | _ :: _ :: _, h, _ => simp at h
 have he3 := ends_three d hdg hne hhd
 have hpos : 0 < decV d := (dec_back d d.length rfl hne hdg (.inr hhd)).2.2 hhd
 have H : AmtOf n.toNat d nm := by
  refine ⟨hdg, hne, hhd, hnm, ?_, ?_⟩
  · intro hn0 hm
    exact h000 ⟨hn0, by rw [he3]; simpa using hm⟩
  · by_cases hp : nm = [112]
    · subst hp
      obtain ⟨l, c, rfl⟩ : ∃ l c, d = l ++ [c] := ⟨d.dropLast, d.getLast hne, (List.dropLast_concat_getLast hne).symm⟩
      have hdg2 := hdg
      rw [List.all_append, Bool.and_eq_true] at hdg2
      have hc : isDg c = true := by simpa using hdg2.2
      have h4 := ends_one l c hc
      have hcv := dg_val hc
      have h5 : decV (l ++ [c]) % 10 = 0 := by
       have h6 : endsW (l ++ [c]) [48] = true := by
        cases hq : endsW (l ++ [c]) [48] with
        | true => rfl
        | false => exact absurd ⟨rfl, hq⟩ h2
       rw [h4] at h6
       simpa using h6
      rw [show coreD (l ++ [c]) [112] = l by unfold coreD; rw [if_pos rfl, List.dropLast_concat]] at hv
      rw [decV_snoc] at h5 ⊢
      rw [if_pos rfl, ← hv]
      simp [unitOf]
      omega
    · rw [show coreD d nm = d by unfold coreD; rw [if_neg hp]] at hv
      rw [if_neg hp, ← hv, Int.toNat_natCast, Nat.mul_one]
 have hun : decV (coreD d nm) * unitOf nm ≤ maxMoney := by
  have hu := unit_pos nm
  exact (Nat.le_div_iff_mul_le hu).1 om_
 have hpos2 : 0 < n.toNat := by
  have := H.val
  have hu := unit_pos nm
  have h7 : 0 < decV d * unitOf nm := Nat.mul_pos hpos hu
  rw [← this] at h7
  rcases Nat.eq_zero_or_pos n.toNat with h8 | h8
  · rw [h8] at h7; simp at h7
  · exact h8
 constructor
 · unfold amountE
   rw [if_neg om_]
 · unfold amountT
   rw [if_neg om_, amt_only n.toNat d nm H]
end Go.Proofs.YtembdkodajichaaGreatDoor
