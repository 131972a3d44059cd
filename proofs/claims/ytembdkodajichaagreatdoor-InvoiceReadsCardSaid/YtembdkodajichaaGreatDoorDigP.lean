/- SHA-256, plain: one block, many blocks, a text filled up, taken in piece by piece. -/
import Derived.Test.YtembdkodajichaaGreatDoorMSpec
set_option linter.unusedSimpArgs false
set_option linter.unusedVariables false
namespace Go.Proofs.YtembdkodajichaaGreatDoor
open Go.RowKit
def x7_ (c : UInt8) : Bool := decide (48 ≤ c.toNat) && decide (c.toNat ≤ 57)
def x2_ (l : List UInt8) : Nat := l.foldl (fun n c => n * 10 + (c.toNat - 48)) 0
theorem zb8_ (l : List UInt8) (c : UInt8) : x2_ (l ++ [c]) = x2_ l * 10 + (c.toNat - 48) := by simp [x2_]
theorem zdN_ : ∀ n : Nat, (Lib.decDigits n).all x7_ = true ∧ x2_ (Lib.decDigits n) = n ∧ Lib.decDigits n ≠ [] ∧ (10 ≤ n → head (Lib.decDigits n) ≠ 48) ∧ (0 < n → head (Lib.decDigits n) ≠ 48) := by
 intro n
 induction n using Nat.strongRecOn with
 | ind n ih =>
   by_cases h : n < 10
   · rw [Lib.decDigits_one h]
     have e := ze2_ n h
     refine ⟨by simp only [List.all_cons, List.all_nil, Bool.and_true, x7_, e, Bool.and_eq_true, decide_eq_true_eq]; omega, by simp only [x2_, List.foldl, e]; omega, by simp, by omega, ?_⟩
     intro h0 hh
     simp only [head, List.headD_cons] at hh
     have := congrArg UInt8.toNat hh
     rw [e] at this
     simp at this
     omega
   · have e := ze2_ (n % 10) (Nat.mod_lt _ om_)
     obtain ⟨h1, h2, h3, _, h5⟩ := ih (n / 10) om_
     have e0 : Lib.decDigits n = Lib.decDigits (n / 10) ++ [UInt8.ofNat (48 + n % 10)] := by rw [Lib.decDigits, dif_neg h]
     have hh : head (Lib.decDigits n) = head (Lib.decDigits (n / 10)) := by
      rw [e0]
      cases hq : Lib.decDigits (n / 10) with
      | nil => exact absurd hq h3
      | cons a b => rfl
     rw [hh, e0]
     refine ⟨?_, ?_, by simp, fun _ => h5 om_, fun _ => h5 om_⟩
     · rw [List.all_append, h1, Bool.true_and]
       simp [x7_, e]; omega
     · rw [zb8_, h2, e]; omega
theorem zlF_ (l : List UInt8) : ∀ (m : Nat), l.length = m → l ≠ [] → l.all x7_ = true → (l.length ≤ 1 ∨ head l ≠ 48) → Lib.decDigits (x2_ l) = l ∧ (2 ≤ l.length → 10 ≤ x2_ l) ∧ (head l ≠ 48 → 1 ≤ x2_ l) := by
 intro m
 induction m generalizing l with
 | zero => intro hm hne; exact absurd (List.eq_nil_of_length_eq_zero hm) hne
 | succ m ih =>
   intro hm hne hall hz
   obtain ⟨l', c, rfl⟩ : ∃ l' c, l = l' ++ [c] := ⟨l.dropLast, l.getLast hne, (List.dropLast_concat_getLast hne).symm⟩
   rw [List.all_append, Bool.and_eq_true] at hall
   have hc : 48 ≤ c.toNat ∧ c.toNat ≤ 57 := by simpa [x7_] using hall.2
   have ec : UInt8.ofNat (48 + (c.toNat - 48)) = c := by
    rw [show 48 + (c.toNat - 48) = c.toNat by omega]
    exact UInt8.ofNat_toNat
   rw [zb8_]
   by_cases hl : l' = []
   · subst hl
     have e0 : x2_ [] * 10 + (c.toNat - 48) = c.toNat - 48 := by simp [x2_]
     rw [e0, Lib.decDigits_one om_, ec]
     refine ⟨rfl, by simp, fun h => ?_⟩
     have : c.toNat ≠ 48 := fun hh => h (by
      simp only [List.nil_append, head, List.headD_cons]
      exact UInt8.toNat_inj.1 hh)
     omega
   · have hh : head (l' ++ [c]) = head l' := by
      cases l' with
      | nil => exact absurd rfl hl
      | cons a b => rfl
     have hlen : l' ≠ [] → 1 ≤ l'.length := fun _ => by cases l' with | nil => exact absurd rfl hl | cons a b => simp
     have h48 : head l' ≠ 48 := by
      rcases hz with hz | hz
      · simp at hz; exact absurd hz hl
      · rwa [hh] at hz
     obtain ⟨g1, g2, g3⟩ := ih l' (by simpa using hm) hl hall.1 (.inr h48)
     have hv := g3 h48
     have d1 : (x2_ l' * 10 + (c.toNat - 48)) / 10 = x2_ l' := by omega
     have d2 : (x2_ l' * 10 + (c.toNat - 48)) % 10 = c.toNat - 48 := by omega
     refine ⟨?_, fun _ => by omega, fun _ => by omega⟩
     rw [Lib.decDigits, dif_neg om_, d1, d2, g1, ec]
def k6_ : Nat := 2100000000000000000
def unitL : List (List UInt8 × Nat) := [([], 100000000000), ([109], 100000000), ([117], 100000), ([110], 100)]
def k8_ (m : Nat) : List (List UInt8 × Nat) → List UInt8
 | [] => Lib.decDigits m ++ [48, 112]
 | (nm, u) :: r => if m % u = 0 then Lib.decDigits (m / u) ++ nm else k8_ m r
def zah_ (m : Int) : Int := if m < 0 ∨ (k6_ : Int) < m then 40 else 0
def k3_ (m : Int) : List UInt8 := if m < 0 ∨ (k6_ : Int) < m ∨ m = 0 then [] else k8_ m.toNat unitL
def nmB (c : UInt8) : Bool := c == 109 || c == 117 || c == 110 || c == 112
def k1_ (s : List UInt8) : List UInt8 := (s.reverse.dropWhile nmB).reverse
def zav_ (nm : List UInt8) : Nat := if nm = [] then 100000000000 else if nm = [109] then 100000000 else if nm = [117] then 100000 else if nm = [110] then 100 else 1
def zar_ (l z : List UInt8) : Bool := z.isSuffixOf l
theorem zh9_ (nm : List UInt8) : 0 < zav_ nm := by
 unfold zav_
 repeat' split
 all_goals omega
def zb9_ (d nm : List UInt8) : List UInt8 := if nm = [112] then d.dropLast else d
def zbo_ (d nm : List UInt8) : Int × Int :=
 if d = [] ∨ d.all x7_ = false ∨ head d = 48 ∨ 1 < nm.length ∨ (nm ≠ [] ∧ zar_ d [48, 48, 48] = true) then (0, 70)
 else if nm = [112] ∧ zar_ d [48] = false then (0, 70)
 else if k6_ / zav_ nm < x2_ (zb9_ d nm) then (0, 40)
 else (((x2_ (zb9_ d nm) * zav_ nm : Nat) : Int), 0)
def z5_ (s : List UInt8) : Int × Int := if s = [] then (0, 0) else zbo_ (k1_ s) (s.drop (k1_ s).length)
theorem zlG_ (p : UInt8 → Bool) (a b : List UInt8) (ha : ∀ x ∈ a, p x = true) (hb : ∀ x r, b = x :: r → p x = false) : (a ++ b).dropWhile p = b := by
 induction a with
 | nil =>
   cases b with
   | nil => rfl
   | cons x r => rw [List.nil_append, List.dropWhile_cons, if_neg (by rw [hb x r rfl]; simp)]
 | cons y a ih =>
   rw [List.cons_append, List.dropWhile_cons, if_pos (ha y si_), ih (fun x hx => ha x (by simp [hx]))]
theorem zlH_ (d nm : List UInt8) (hd : d.all x7_ = true) (hn : ∀ x ∈ nm, nmB x = true) : k1_ (d ++ nm) = d := by
 unfold k1_
 rw [List.reverse_append, zlG_ nmB nm.reverse d.reverse (fun x hx => hn x (by simpa using hx)), List.reverse_reverse]
 intro x r hx
 have hm : x ∈ d := by
  have : x ∈ d.reverse := by rw [hx]; simp
  simpa using this
 have hdx := List.all_eq_true.1 hd x hm
 unfold x7_ at hdx
 simp only [Bool.and_eq_true, decide_eq_true_eq] at hdx
 unfold nmB
 simp only [Bool.or_eq_false_iff, beq_eq_false_iff_ne, ne_eq, ← UInt8.toNat_inj]
 simp
 omega
theorem zgj_ (s : List UInt8) : ∃ nm, s = k1_ s ++ nm ∧ (∀ x ∈ nm, nmB x = true) := by
 refine ⟨(s.reverse.takeWhile nmB).reverse, ?_, ?_⟩
 · unfold k1_
   rw [← List.reverse_append, List.takeWhile_append_dropWhile, List.reverse_reverse]
 · intro x hx
   have hx := List.mem_reverse.1 hx
   exact List.all_eq_true.1 (List.all_takeWhile (p := nmB) (l := s.reverse)) x hx
theorem zgk_ (d nm : List UInt8) (hd : d.all x7_ = true) (hn : ∀ x ∈ nm, nmB x = true) (h0 : d ++ nm ≠ []) : z5_ (d ++ nm) = zbo_ d nm := by
 unfold z5_
 rw [if_neg h0, zlH_ d nm hd hn, List.drop_left]
theorem zcL_ {c : UInt8} (h : x7_ c = true) : c.toNat = 48 + (c.toNat - 48) ∧ c.toNat - 48 < 10 := by
 unfold x7_ at h
 simp only [Bool.and_eq_true, decide_eq_true_eq] at h
 omega
theorem zlI_ (l : List UInt8) (c : UInt8) (hc : x7_ c = true) : zar_ (l ++ [c]) [48] = decide (x2_ (l ++ [c]) % 10 = 0) := by
 have h := zcL_ hc
 rw [zb8_]
 unfold zar_
 rw [Bool.eq_iff_iff, List.isSuffixOf_iff_suffix, decide_eq_true_eq]
 constructor
 · intro hs
   have h2 := List.suffix_iff_eq_drop.1 hs
   simp at h2
   rw [← h2]
   simp
 · intro hm
   have : c = 48 := UInt8.toNat_inj.1 (by
    show c.toNat = 48
    omega)
   rw [this]
   exact ⟨l, rfl⟩
theorem zlJ_ (d : List UInt8) (hd : d.all x7_ = true) (h0 : d ≠ []) (hh : head d ≠ 48) : zar_ d [48, 48, 48] = decide (x2_ d % 1000 = 0) := by
 have hb := zlF_ d d.length rfl h0 hd (.inr hh)
 rw [Bool.eq_iff_iff, decide_eq_true_eq]
 unfold zar_
 rw [List.isSuffixOf_iff_suffix]
 constructor
 · rintro ⟨l, rfl⟩
   rw [show l ++ [48, 48, 48] = ((l ++ [48]) ++ [48]) ++ [48] by simp, zb8_, zb8_, zb8_]
   simp
   omega
 · intro hm
   have hv := hb.2.2 hh
   rcases (show d.length < 3 ∨ 3 ≤ d.length by omega) with hl | hl
   · exfalso
     match d, h0, hl with
     | [a], _, _ =>
       have ha := zcL_ (List.all_eq_true.1 hd a si_)
       simp [x2_] at hm hv
       omega
     | [a, b], _, _ =>
       have ha := zcL_ (List.all_eq_true.1 hd a si_)
       have hb := zcL_ (List.all_eq_true.1 hd b si_)
       simp [x2_] at hm hv
       omega
   · obtain ⟨l, a, b, c, rfl⟩ : ∃ l a b c, d = l ++ [a, b, c] := by
      have h3 : (d.drop (d.length - 3)).length = 3 := by simp; omega
      match hq : d.drop (d.length - 3), h3 with
      | [a, b, c], _ => exact ⟨d.take (d.length - 3), a, b, c, by rw [← hq, List.take_append_drop]⟩
     have ha := zcL_ (List.all_eq_true.1 hd a si_)
     have hb := zcL_ (List.all_eq_true.1 hd b si_)
     have hc := zcL_ (List.all_eq_true.1 hd c si_)
     rw [show l ++ [a, b, c] = ((l ++ [a]) ++ [b]) ++ [c] by simp, zb8_, zb8_, zb8_] at hm
     have e1 : a = 48 := UInt8.toNat_inj.1 (by show a.toNat = 48; omega)
     have e2 : b = 48 := UInt8.toNat_inj.1 (by show b.toNat = 48; omega)
     have e3 : c = 48 := UInt8.toNat_inj.1 (by show c.toNat = 48; omega)
     subst e1 e2 e3
     exact ⟨l, rfl⟩
structure zlK_ (n : Nat) (d nm : List UInt8) : Prop where
 dg : d.all x7_ = true
 ne : d ≠ []
 head : head d ≠ 48
 un : nm = [] ∨ nm = [109] ∨ nm = [117] ∨ nm = [110] ∨ nm = [112]
 no000 : nm ≠ [] → x2_ d % 1000 ≠ 0
 val : n * (if nm = [112] then 10 else 1) = x2_ d * zav_ nm
theorem zlL_ (n : Nat) (h0 : 0 < n) : ∃ d nm, k8_ n unitL = d ++ nm ∧ zlK_ n d nm := by
 unfold unitL
 simp only [k8_]
 by_cases h1 : n % 100000000000 = 0
 · rw [if_pos h1]
   have hd := zdN_ (n / 100000000000)
   exact ⟨_, [], rfl, hd.1, hd.2.2.1, hd.2.2.2.2 om_, .inl rfl, fun h => absurd rfl h, by rw [hd.2.1]; simp [zav_]; omega⟩
 rw [if_neg h1]
 by_cases h2 : n % 100000000 = 0
 · rw [if_pos h2]
   have hd := zdN_ (n / 100000000)
   exact ⟨_, [109], rfl, hd.1, hd.2.2.1, hd.2.2.2.2 om_, .inr (.inl rfl), fun _ => by rw [hd.2.1]; omega, by rw [hd.2.1]; simp [zav_]; omega⟩
 rw [if_neg h2]
 by_cases h3 : n % 100000 = 0
 · rw [if_pos h3]
   have hd := zdN_ (n / 100000)
   exact ⟨_, [117], rfl, hd.1, hd.2.2.1, hd.2.2.2.2 om_, .inr (.inr (.inl rfl)), fun _ => by rw [hd.2.1]; omega, by rw [hd.2.1]; simp [zav_]; omega⟩
 rw [if_neg h3]
 by_cases h4 : n % 100 = 0
 · rw [if_pos h4]
   have hd := zdN_ (n / 100)
   exact ⟨_, [110], rfl, hd.1, hd.2.2.1, hd.2.2.2.2 om_, .inr (.inr (.inr (.inl rfl))), fun _ => by rw [hd.2.1]; omega, by rw [hd.2.1]; simp [zav_]; omega⟩
 rw [if_neg h4]
 have hd := zdN_ n
 have hv : x2_ (Lib.decDigits n ++ [48]) = n * 10 := by rw [zb8_, hd.2.1]; simp
 refine ⟨Lib.decDigits n ++ [48], [112], by simp, ?_, by simp, ?_, .inr (.inr (.inr (.inr rfl))), fun _ => by rw [hv]; omega, by rw [hv]; simp [zav_]⟩
 · rw [List.all_append, hd.1]; rfl
 · have h5 := hd.2.2.2.2 h0
   cases hq : Lib.decDigits n with
   | nil => exact absurd hq hd.2.2.1
   | cons a b => rw [hq] at h5; exact h5
theorem zlM_ {nm : List UInt8} (h : nm = [] ∨ nm = [109] ∨ nm = [117] ∨ nm = [110] ∨ nm = [112]) : ∀ x ∈ nm, nmB x = true := by
 rcases h with rfl | rfl | rfl | rfl | rfl <;> simp [nmB]
theorem zlN_ (a : Int) (h : zah_ a = 0) : z5_ (k3_ a) = (a, 0) := by
 unfold zah_ at h
 split at h
 · cases h
 rename_i h1
 unfold k3_
 by_cases h0 : a = 0
 · subst h0
   rw [if_pos si_]
   rfl
 rw [if_neg om_]
 obtain ⟨d, nm, e, H⟩ := zlL_ a.toNat om_
 rw [e, zgk_ d nm H.dg (zlM_ H.un) (by simp [H.ne])]
 have hv := H.val
 have h3 := zlJ_ d H.dg H.ne H.head
 unfold zbo_
 rw [if_neg]
 · by_cases hp : nm = [112]
   · subst hp
     obtain ⟨l, c, rfl⟩ : ∃ l c, d = l ++ [c] := ⟨d.dropLast, d.getLast H.ne, (List.dropLast_concat_getLast H.ne).symm⟩
     have hdg := H.dg
     rw [List.all_append, Bool.and_eq_true] at hdg
     have hc : x7_ c = true := by simpa using hdg.2
     have h4 := zlI_ l c hc
     have hcv := zcL_ hc
     simp [zav_] at hv
     have h10 : x2_ (l ++ [c]) % 10 = 0 := by omega
     rw [h4, decide_eq_true h10, if_neg si_, show zb9_ (l ++ [c]) [112] = l by unfold zb9_; rw [if_pos rfl, List.dropLast_concat]]
     rw [zb8_] at hv h10
     rw [if_neg (by simp [zav_, k6_] at h1 ⊢; omega)]
     simp [zav_]
     omega
   · rw [if_neg (fun h => hp h.1), show zb9_ d nm = d by unfold zb9_; rw [if_neg hp]]
     rw [if_neg hp] at hv
     rw [if_neg]
     · rw [← hv]; simp; omega
     · intro hlt
       have hu := zh9_ nm
       have := (Nat.div_lt_iff_lt_mul hu).1 hlt
       rw [← hv] at this
       omega
 · rintro (h | h | h | h | h)
   · exact H.ne h
   · rw [H.dg] at h; cases h
   · exact H.head h
   · rcases H.un with e | e | e | e | e <;> subst e <;> simp at h
   · rw [h3, decide_eq_true_eq] at h
     exact H.no000 h.1 h.2
/-! the check -/
def turnK : List Nat := [0x3b6a57b2, 0x26508e6d, 0x1ea119fa, 0x3d4233dd, 0x2a1462b3]
def zbw_ : List Nat → Nat → Nat → Nat
 | [], _, s => s
 | k :: r, t, s => zbw_ r (t / 2) (s ^^^ (if t % 2 = 1 then k else 0))
def zcM_ (s w : Nat) : Nat := zbw_ turnK (s / 2 ^ 25) (((s % 2 ^ 25) * 32) ^^^ w)
def poly : Nat → List UInt8 → Nat
 | s, [] => s
 | s, w :: r => poly (zcM_ s w.toNat) r
theorem zcN_ (s : Nat) (l r : List UInt8) : poly s (l ++ r) = poly (poly s l) r := by
 induction l generalizing s with
 | nil => rfl
 | cons x l ih => simp only [List.cons_append, poly]; exact ih _
theorem zlO_ (ks : List Nat) (t a b : Nat) : zbw_ ks t (a ^^^ b) = zbw_ ks t a ^^^ b := by
 induction ks generalizing t a with
 | nil => rfl
 | cons k r ih =>
   rw [zbw_, zbw_, ← ih]
   congr 1
   rw [Nat.xor_assoc, Nat.xor_comm b, ← Nat.xor_assoc]
def genT (t : Nat) : Nat := zbw_ turnK t 0
theorem zlP_ : ∀ t u : Fin 32, genT (t.val ^^^ u.val) = genT t.val ^^^ genT u.val := by decide +kernel
theorem zlQ_ : ∀ t : Fin 32, genT t.val < 2 ^ 30 := by decide +kernel
theorem zeh_ (s w : Nat) : zcM_ s w = ((s % 2 ^ 25) * 32) ^^^ w ^^^ genT (s / 2 ^ 25) := by
 unfold zcM_ genT
 have := zlO_ turnK (s / 2 ^ 25) 0 (((s % 2 ^ 25) * 32) ^^^ w)
 rw [Nat.zero_xor] at this
 rw [this, Nat.xor_comm]
theorem zlR_ (a b n : Nat) : (a ^^^ b) / 2 ^ n = a / 2 ^ n ^^^ b / 2 ^ n := by
 rw [← Nat.shiftRight_eq_div_pow, ← Nat.shiftRight_eq_div_pow, ← Nat.shiftRight_eq_div_pow, Nat.shiftRight_xor_distrib]
theorem zlS_ (a b n : Nat) : (a ^^^ b) * 2 ^ n = a * 2 ^ n ^^^ b * 2 ^ n := by
 rw [← Nat.shiftLeft_eq, ← Nat.shiftLeft_eq, ← Nat.shiftLeft_eq, Nat.shiftLeft_xor_distrib]
theorem zlT_ (s d w e : Nat) (hs : s < 2 ^ 30) (hd : d < 2 ^ 30) : zcM_ (s ^^^ d) (w ^^^ e) = zcM_ s w ^^^ zcM_ d e := by
 rw [zeh_, zeh_, zeh_, zlR_, Nat.xor_mod_two_pow]
 have h1 : s / 2 ^ 25 < 32 := by omega
 have h2 : d / 2 ^ 25 < 32 := by omega
 have hg := zlP_ ⟨_, h1⟩ ⟨_, h2⟩
 simp only at hg
 rw [hg]
 have hm : ((s % 2 ^ 25) ^^^ (d % 2 ^ 25)) * 32 = (s % 2 ^ 25) * 32 ^^^ (d % 2 ^ 25) * 32 := zlS_ _ _ 5
 rw [hm]
 generalize (s % 2 ^ 25) * 32 = A
 generalize (d % 2 ^ 25) * 32 = B
 generalize genT (s / 2 ^ 25) = C
 generalize genT (d / 2 ^ 25) = D
 ac_rfl
theorem zgl_ (s w : Nat) (hs : s < 2 ^ 30) (hw : w < 2 ^ 30) : zcM_ s w < 2 ^ 30 := by
 rw [zeh_]
 have h1 : s / 2 ^ 25 < 32 := by omega
 exact Nat.xor_lt_two_pow (Nat.xor_lt_two_pow om_ hw) (zlQ_ ⟨_, h1⟩)
theorem zcP_ (s : Nat) (l : List UInt8) (hs : s < 2 ^ 30) : poly s l < 2 ^ 30 := by
 induction l generalizing s with
 | nil => exact hs
 | cons w r ih => rw [poly]; exact ih _ (zgl_ s _ hs (by have := w.toNat_lt; omega))
theorem zdO_ (x w : Nat) (hx : x < 2 ^ 25) (hw : w < 32) : zcM_ x w = x * 32 + w := by
 rw [zeh_, Nat.div_eq_of_lt hx, Nat.mod_eq_of_lt hx]
 have h0 : genT 0 = 0 := by decide +kernel
 rw [h0, Nat.xor_zero]
 have := Nat.two_pow_add_eq_or_of_lt (i := 5) (b := w) om_ x
 rw [Nat.mul_comm (2 ^ 5) x] at this
 rw [show (32 : Nat) = 2 ^ 5 from rfl, this]
 apply Nat.eq_of_testBit_eq
 intro i
 rw [Nat.testBit_xor, Nat.testBit_or]
 by_cases hi : i < 5
 · have e : (x * 2 ^ 5).testBit i = false := by
    rw [← Nat.shiftLeft_eq, Nat.testBit_shiftLeft]
    simp
    omega
   rw [e]
   simp
 · have e : w.testBit i = false := Nat.testBit_lt_two_pow (Nat.lt_of_lt_of_le hw (by show 2 ^ 5 ≤ 2 ^ i; exact Nat.pow_le_pow_right om_ om_))
   rw [e]
   simp
def sixW (c : Nat) : List UInt8 := [25, 20, 15, 10, 5, 0].map fun i => UInt8.ofNat (c / 2 ^ i % 32)
def zbG_ : List UInt8 := [0, 0, 0, 0, 0, 0]
theorem ze6_ (n : Nat) : (UInt8.ofNat (n % 32)).toNat = n % 32 := by
 rw [UInt8.toNat_ofNat']
 omega
theorem zlU_ (c : Nat) (hc : c < 2 ^ 30) : poly 0 (sixW c) = c := by
 simp only [sixW, List.map_cons, List.map_nil, poly, ze6_]
 have h1 := zdO_ 0 (c / 2 ^ 25 % 32) om_ om_
 have h2 := zdO_ (0 * 32 + c / 2 ^ 25 % 32) (c / 2 ^ 20 % 32) om_ om_
 have h3 := zdO_ ((0 * 32 + c / 2 ^ 25 % 32) * 32 + c / 2 ^ 20 % 32) (c / 2 ^ 15 % 32) om_ om_
 have h4 := zdO_ (((0 * 32 + c / 2 ^ 25 % 32) * 32 + c / 2 ^ 20 % 32) * 32 + c / 2 ^ 15 % 32) (c / 2 ^ 10 % 32) om_ om_
 have h5 := zdO_ ((((0 * 32 + c / 2 ^ 25 % 32) * 32 + c / 2 ^ 20 % 32) * 32 + c / 2 ^ 15 % 32) * 32 + c / 2 ^ 10 % 32) (c / 2 ^ 5 % 32) om_ om_
 have h6 := zdO_ (((((0 * 32 + c / 2 ^ 25 % 32) * 32 + c / 2 ^ 20 % 32) * 32 + c / 2 ^ 15 % 32) * 32 + c / 2 ^ 10 % 32) * 32 + c / 2 ^ 5 % 32) (c / 2 ^ 0 % 32) om_ om_
 rw [h1, h2, h3, h4, h5, h6]
 omega
def xorL : List UInt8 → List UInt8 → List UInt8
 | a :: l, b :: r => (a ^^^ b) :: xorL l r
 | _, _ => []
theorem zia_ : ∀ (l r : List UInt8) (s d : Nat), l.length = r.length → s < 2 ^ 30 → d < 2 ^ 30 → poly (s ^^^ d) (xorL l r) = poly s l ^^^ poly d r
 | [], [], s, d, _, _, _ => rfl
 | a :: l, b :: r, s, d, h, hs, hd => by
   simp only [xorL, poly]
   rw [UInt8.toNat_xor, zlT_ s d _ _ hs hd]
   have ha := a.toNat_lt
   have hb := b.toNat_lt
   exact zia_ l r _ _ (by simpa using h) (zgl_ _ _ hs om_) (zgl_ _ _ hd om_)
 | [], _ :: _, _, _, h, _, _ => by simp at h
 | _ :: _, [], _, _, h, _, _ => by simp at h
theorem zlV_ (s c : Nat) (hs : s < 2 ^ 30) (hc : c < 2 ^ 30) : poly s (sixW c) = poly s zbG_ ^^^ c := by
 have h := zia_ zbG_ (sixW c) s 0 rfl hs om_
 rw [zlU_ c hc, Nat.xor_zero] at h
 rw [← h]
 congr 1
 simp [zbG_, sixW, xorL]
def hrpW (h : List UInt8) : List UInt8 := h.map (fun c => UInt8.ofNat (c.toNat / 32)) ++ 0 :: h.map (fun c => UInt8.ofNat (c.toNat % 32))
def zbb_ (h : List UInt8) : Nat := poly 1 (hrpW h)
theorem zdP_ (h : List UInt8) : zbb_ h < 2 ^ 30 := zcP_ _ _ om_
def fitC (h w : List UInt8) : Nat := poly (zbb_ h) (w ++ zbG_) ^^^ 1
theorem zib_ (h w : List UInt8) : fitC h w < 2 ^ 30 := Nat.xor_lt_two_pow (zcP_ _ _ (zdP_ h)) om_
theorem zlW_ (h w : List UInt8) : poly (zbb_ h) (w ++ sixW (fitC h w)) = 1 := by
 rw [zcN_, zlV_ _ _ (zcP_ _ _ (zdP_ h)) (zib_ h w), ← zcN_]
 unfold fitC
 rw [← Nat.xor_assoc, Nat.xor_self, Nat.zero_xor]
/-! letters -/
def letB : List UInt8 := [113, 112, 122, 114, 121, 57, 120, 56, 103, 102, 50, 116, 118, 100, 119, 48, 115, 51, 106, 110, 53, 52, 107, 104, 99, 101, 54, 109, 117, 97, 55, 108]
def letter (w : Nat) : UInt8 := letB.getD w 0
def zdA_ (c : UInt8) : List UInt8 → Nat
 | [] => 0
 | x :: r => if x = c then 0 else zdA_ c r + 1
def zaN_ (c : UInt8) : Nat := zdA_ c letB
theorem zlX_ : ∀ w : Fin 32, zaN_ (letter w.val) = w.val := by decide +kernel
theorem zlY_ : ∀ c : Fin 256, zaN_ (UInt8.ofNat c.val) ≤ 32 := by decide +kernel
theorem zlZ_ : ∀ w : Fin 32, (letter w.val).toNat ≠ 49 ∧ 33 ≤ (letter w.val).toNat ∧ (letter w.val).toNat ≤ 126 ∧ ¬ (65 ≤ (letter w.val).toNat ∧ (letter w.val).toNat ≤ 90) := by decide +kernel
theorem ze8_ {p : UInt8 → Prop} (h : ∀ c : Fin 256, p (UInt8.ofNat c.val)) (c : UInt8) : p c := by
 have := h ⟨c.toNat, c.toNat_lt⟩
 simpa using this
theorem zic_ (c : UInt8) : zaN_ c ≤ 32 := ze8_ (p := fun c => zaN_ c ≤ 32) zlY_ c
def w9_ (c : UInt8) : UInt8 := if 65 ≤ c.toNat ∧ c.toNat ≤ 90 then UInt8.ofNat (c.toNat + 32) else c
def v8_ (c : UInt8) : Bool := decide (65 ≤ c.toNat ∧ c.toNat ≤ 90)
def k2_ (c : UInt8) : Bool := decide (97 ≤ c.toNat ∧ c.toNat ≤ 122)
def hrpC (c : UInt8) : Bool := decide (33 ≤ c.toNat) && decide (c.toNat ≤ 126) && !v8_ c
def zbI_ (h : List UInt8) : Bool := decide (1 ≤ h.length) && decide (h.length ≤ 83) && h.all hrpC
def encE (h w : List UInt8) : Int := if zbI_ h = false then 60 else if w.any (fun x => decide (31 < x.toNat)) = true then 60 else if h.length + w.length + 7 > 32768 then 3 else 0
def encT (h w : List UInt8) : List UInt8 := h ++ 49 :: (w.map (fun x => letter x.toNat) ++ (sixW (fitC h w)).map (fun x => letter x.toNat))
def q7_ : List UInt8 → Option Nat
 | [] => none
 | c :: r => if (q7_ r).isSome then (q7_ r).map (· + 1) else if c = 49 then some 0 else none
def q2_ (c : UInt8) : Bool := decide (c.toNat ≤ 32) || decide (127 ≤ c.toNat)
def zcQ_ (s : List UInt8) : Bool := s.any q2_ || (s.any k2_ && s.any v8_) || (match q7_ s with | none => true | some k => decide (k < 1) || decide (83 < k) || decide (s.length ≤ k + 6))
def atOf (s : List UInt8) : Nat := (q7_ s).getD 0
def w2_ (s : List UInt8) : List UInt8 := ((s.map w9_).drop (atOf s + 1)).map fun c => UInt8.ofNat (zaN_ c)
def x5_ (s : List UInt8) : List UInt8 := (s.map w9_).take (atOf s)
def k4_ (s : List UInt8) : List UInt8 := (w2_ s).take ((w2_ s).length - 6)
def v9_ (s : List UInt8) : Int :=
 if s.length > 32768 then 3 else if zcQ_ s = true then 60 else if (w2_ s).any (fun x => decide (31 < x.toNat)) = true then 60
 else if poly (zbb_ (x5_ s)) (w2_ s) ≠ 1 then 61 else 0
theorem zgm_ (l r : List UInt8) : q7_ (l ++ r) = match q7_ r with | some k => some (l.length + k) | none => q7_ l := by
 induction l with
 | nil => simp [q7_]; cases q7_ r <;> rfl
 | cons c l ih =>
   rw [List.cons_append, q7_, ih, q7_]
   cases q7_ r with
   | some k => simp; omega
   | none => cases q7_ l <;> simp
theorem zgn_ {l : List UInt8} (h : ∀ c ∈ l, c ≠ 49) : q7_ l = none := by
 induction l with
 | nil => rfl
 | cons c l ih =>
   rw [q7_, ih (fun x hx => h x (by simp [hx]))]
   simp [h c si_]
theorem zl0_ {l : List UInt8} {k : Nat} (h : q7_ l = some k) : ∃ a b, l = a ++ 49 :: b ∧ a.length = k ∧ ∀ c ∈ b, c ≠ 49 := by
 induction l generalizing k with
 | nil => cases h
 | cons c l ih =>
   rw [q7_] at h
   cases hl : q7_ l with
   | some j =>
     rw [hl] at h
     simp only [Option.isSome_some, if_true, Option.map_some, Option.some.injEq] at h
     obtain ⟨a, b, rfl, ha, hb⟩ := ih hl
     exact ⟨c :: a, b, rfl, by simp; omega, hb⟩
   | none =>
     rw [hl] at h
     simp only [Option.isSome_none, Bool.false_eq_true, if_false] at h
     split at h
     · rename_i hc
       injection h with h
       subst hc
       refine ⟨[], l, rfl, h, ?_⟩
       intro x hx e
       subst e
       clear ih h
       induction l with
       | nil => cases hx
       | cons y l ih2 =>
         rw [q7_] at hl
         cases hll : q7_ l with
         | some j => rw [hll] at hl; simp at hl
         | none =>
           rw [hll] at hl
           rcases List.mem_cons.1 hx with rfl | hx
           · simp at hl
           · exact ih2 hll hx
     · cases h
theorem zl1_ {c : UInt8} (h : v8_ c = false) : w9_ c = c := by
 unfold v8_ at h
 unfold w9_
 rw [if_neg (by simpa using h)]
theorem zl2_ : ∀ c : UInt8, (w9_ c = 49) = (c = 49) := ze8_ (p := fun c => (w9_ c = 49) = (c = 49)) (fun c => by
 have : ∀ c : Fin 256, decide (w9_ (UInt8.ofNat c.val) = 49) = decide (UInt8.ofNat c.val = 49) := by decide +kernel
 exact propext (by simpa using this c))
theorem zid_ (l : List UInt8) : q7_ (l.map w9_) = q7_ l := by
 induction l with
 | nil => rfl
 | cons c l ih => rw [List.map_cons, q7_, q7_, ih]; simp only [zl2_]
theorem zl3_ (h w : List UInt8) (he : encE h w = 0) : v9_ (encT h w) = 0 ∧ x5_ (encT h w) = h ∧ k4_ (encT h w) = w ∧ (encT h w).map w9_ = encT h w := by
 unfold encE at he
 split at he
 · cases he
 rename_i h1
 split at he
 · cases he
 rename_i h2
 split at he
 · cases he
 rename_i h3
 simp only [Bool.not_eq_false] at h1
 have hall : ∀ x ∈ w, x.toNat < 32 := by
  intro x hx
  simp only [List.any_eq_true, decide_eq_true_eq, not_exists, not_and] at h2
  have := h2 x hx
  omega
 unfold zbI_ at h1
 simp only [Bool.and_eq_true, decide_eq_true_eq, List.all_eq_true] at h1
 obtain ⟨⟨hl1, hl2⟩, hc⟩ := h1
 have hcl : ∀ c ∈ h, v8_ c = false ∧ q2_ c = false := by
  intro c hm
  have := hc c hm
  unfold hrpC at this
  simp only [Bool.and_eq_true, decide_eq_true_eq, Bool.not_eq_true'] at this
  refine ⟨this.2, ?_⟩
  unfold q2_
  simp
  omega
 have hsix : ∀ x ∈ sixW (fitC h w), x.toNat < 32 := by
  intro x hx
  unfold sixW at hx
  obtain ⟨i, _, rfl⟩ := List.mem_map.1 hx
  rw [ze6_]
  omega
 have hall2 : ∀ x ∈ w ++ sixW (fitC h w), x.toNat < 32 := by
  intro x hx
  rcases List.mem_append.1 hx with hx | hx
  · exact hall x hx
  · exact hsix x hx
 have hlet : ∀ c ∈ (w ++ sixW (fitC h w)).map (fun x => letter x.toNat), c ≠ 49 ∧ v8_ c = false ∧ q2_ c = false := by
  intro c hm
  obtain ⟨x, hx, rfl⟩ := List.mem_map.1 hm
  have := zlZ_ ⟨_, hall2 x hx⟩
  simp only at this
  refine ⟨fun e => this.1 (by rw [e]; rfl), ?_, ?_⟩
  · unfold v8_; simpa using this.2.2.2
  · unfold q2_; simp; omega
 have hT : encT h w = h ++ 49 :: (w ++ sixW (fitC h w)).map (fun x => letter x.toNat) := by unfold encT; rw [List.map_append]
 have hlast : q7_ (encT h w) = some h.length := by
  rw [hT, zgm_, q7_, zgn_ (fun c hm => (hlet c hm).1)]
  simp
 have hup : ∀ c ∈ encT h w, v8_ c = false ∧ q2_ c = false := by
  intro c hm
  rw [hT] at hm
  rcases List.mem_append.1 hm with hm | hm
  · exact hcl c hm
  · rcases List.mem_cons.1 hm with rfl | hm
    · exact ⟨by decide, by decide⟩
    · exact (hlet c hm).2
 have hlow : (encT h w).map w9_ = encT h w := by
  conv => rhs; rw [← List.map_id (encT h w)]
  exact List.map_congr_left fun c hm => by rw [zl1_ (hup c hm).1]; rfl
 have hat : atOf (encT h w) = h.length := by unfold atOf; rw [hlast]; rfl
 have hH : x5_ (encT h w) = h := by
  unfold x5_
  rw [hlow, hat, hT]
  simp
 have htail : w2_ (encT h w) = w ++ sixW (fitC h w) := by
  unfold w2_
  rw [hlow, hat, hT]
  rw [show h.length + 1 = (h ++ [49]).length by simp, show h ++ 49 :: (w ++ sixW (fitC h w)).map (fun x => letter x.toNat) = (h ++ [49]) ++ (w ++ sixW (fitC h w)).map (fun x => letter x.toNat) by simp, List.drop_left, List.map_map]
  conv => rhs; rw [← List.map_id (w ++ sixW (fitC h w))]
  refine List.map_congr_left fun x hx => ?_
  have := zlX_ ⟨_, hall2 x hx⟩
  simp only [Function.comp_apply, id_eq] at this ⊢
  rw [this]
  simp
 have hlen : (encT h w).length = h.length + w.length + 7 := by rw [hT]; simp [sixW]; omega
 refine ⟨?_, hH, ?_, hlow⟩
 · unfold v9_
   rw [if_neg om_]
   rw [if_neg]
   · rw [htail, if_neg, hH, zlW_]
     · simp
     · simp only [List.any_eq_true, decide_eq_true_eq, not_exists, not_and]
       intro x hx
       have := hall2 x hx
       omega
   · unfold zcQ_
     rw [hlast]
     simp only [Bool.or_eq_true, Bool.and_eq_true, decide_eq_true_eq, List.any_eq_true, not_or]
     refine ⟨⟨?_, ?_⟩, ?_⟩
     · rintro ⟨c, hm, hb⟩
       rw [(hup c hm).2] at hb
       cases hb
     · rintro ⟨_, c, hm, hb⟩
       rw [(hup c hm).1] at hb
       cases hb
     · rw [hlen]
       omega
 · unfold k4_
   rw [htail]
   simp [sixW]
def y3_ (b : Nat) : List UInt8 → Nat := fun l => l.foldl (fun v x => v * b + x.toNat) 0
def z1_ (b : Nat) : Nat → Nat → List UInt8
 | 0, _ => []
 | n + 1, v => z1_ b n (v / b) ++ [UInt8.ofNat (v % b)]
theorem ze9_ (b : Nat) : y3_ b [] = 0 := rfl
theorem zcy_ (b : Nat) (l : List UInt8) (x : UInt8) : y3_ b (l ++ [x]) = y3_ b l * b + x.toNat := by
 unfold y3_
 rw [List.foldl_append]
 rfl
theorem y9_ (b n v : Nat) : (z1_ b n v).length = n := by
 induction n generalizing v with
 | zero => rfl
 | succ n ih => rw [z1_, List.length_append, ih]; rfl
theorem zfa_ {b : Nat} (hb : b ≤ 256) (hb0 : 0 < b) (n v : Nat) : ∀ x ∈ z1_ b n v, x.toNat < b := by
 induction n generalizing v with
 | zero => intro x hx; cases hx
 | succ n ih =>
   intro x hx
   rw [z1_] at hx
   rcases List.mem_append.1 hx with hx | hx
   · exact ih _ x hx
   · simp at hx
     subst hx
     have := Nat.mod_lt v hb0
     rw [UInt8.toNat_ofNat']
     omega
theorem zfb_ {b : Nat} (hb : b ≤ 256) (hb0 : 0 < b) (n v : Nat) (hv : v < b ^ n) : y3_ b (z1_ b n v) = v := by
 induction n generalizing v with
 | zero => simp at hv; subst hv; rfl
 | succ n ih =>
   rw [z1_, zcy_, ih (v / b) (by rw [Nat.pow_succ] at hv; exact Nat.div_lt_of_lt_mul (by rw [Nat.mul_comm]; exact hv))]
   have h1 := Nat.mod_lt v hb0
   rw [UInt8.toNat_ofNat', Nat.mod_eq_of_lt (a := v % b) om_]
   have := Nat.div_add_mod v b
   rw [Nat.mul_comm] at this
   exact this
theorem zgo_ {p : List UInt8 → Prop} (h0 : p []) (h1 : ∀ l x, p l → p (l ++ [x])) (l : List UInt8) : p l := by
 have : ∀ n, ∀ l : List UInt8, l.length = n → p l := by
  intro n
  induction n with
  | zero => intro l hl; rw [List.eq_nil_of_length_eq_zero hl]; exact h0
  | succ n ih =>
    intro l hl
    have hne : l ≠ [] := fun e => by subst e; simp at hl
    rw [← List.dropLast_concat_getLast hne]
    exact h1 _ _ (ih _ (by simp [hl]))
 exact this _ l rfl
theorem zgp_ {b : Nat} (hb0 : 0 < b) (l : List UInt8) (hl : ∀ x ∈ l, x.toNat < b) : z1_ b l.length (y3_ b l) = l := by
 induction l using zgo_ with
 | h0 => rfl
 | h1 l x ih =>
   have hx := hl x si_
   rw [List.length_append, List.length_singleton, z1_, zcy_]
   rw [show (y3_ b l * b + x.toNat) / b = y3_ b l by rw [Nat.mul_comm, Nat.mul_add_div hb0, Nat.div_eq_of_lt hx]; rfl]
   rw [show (y3_ b l * b + x.toNat) % b = x.toNat by rw [Nat.mul_comm, Nat.mul_add_mod, Nat.mod_eq_of_lt hx]]
   rw [ih (fun y hy => hl y (by simp [hy]))]
   simp
theorem zcR_ {b : Nat} (l : List UInt8) (hl : ∀ x ∈ l, x.toNat < b) : y3_ b l < b ^ l.length := by
 induction l using zgo_ with
 | h0 => simp [y3_]
 | h1 l x ih =>
   have hx := hl x si_
   have h := ih (fun y hy => hl y (by simp [hy]))
   rw [zcy_, List.length_append, List.length_singleton, Nat.pow_succ]
   have : (y3_ b l + 1) * b ≤ b ^ l.length * b := Nat.mul_le_mul_right _ h
   rw [Nat.add_mul] at this
   omega
def w7_ (f t : Nat) (pad : Bool) (l : List UInt8) : Option (List UInt8) :=
 if l.any (fun x => decide (2 ^ f ≤ x.toNat)) = true then none
 else if pad = true then (if f * l.length % t = 0 then some (z1_ (2 ^ t) (f * l.length / t) (y3_ (2 ^ f) l)) else some (z1_ (2 ^ t) (f * l.length / t + 1) (y3_ (2 ^ f) l * 2 ^ (t - f * l.length % t))))
 else if f ≤ f * l.length % t ∨ y3_ (2 ^ f) l % 2 ^ (f * l.length % t) ≠ 0 then none
 else some (z1_ (2 ^ t) (f * l.length / t) (y3_ (2 ^ f) l / 2 ^ (f * l.length % t)))
theorem zcS_ {l : List UInt8} {n : Nat} (h : ∀ x ∈ l, x.toNat < n) : l.any (fun x => decide (n ≤ x.toNat)) = false := by
 rw [Bool.eq_false_iff]
 intro h2
 simp only [List.any_eq_true, decide_eq_true_eq] at h2
 obtain ⟨x, hx, h3⟩ := h2
 have := h x hx
 omega
theorem zl4_ {l : List UInt8} {n : Nat} (h : ¬ l.any (fun x => decide (n ≤ x.toNat)) = true) : ∀ x ∈ l, x.toNat < n := by
 intro x hx
 simp only [List.any_eq_true, decide_eq_true_eq, not_exists, not_and] at h
 have := h x hx
 omega
def x4_ (s : List UInt8) : List UInt8 := (w7_ 8 5 true s).getD []
theorem zei_ (l : List UInt8) : ∀ x ∈ l, x.toNat < 2 ^ 8 := fun x _ => x.toNat_lt
theorem zfc_ (s : List UInt8) : w7_ 8 5 true s = some (x4_ s) := by
 unfold x4_ w7_
 rw [if_neg (by rw [zcS_ (zei_ s)]; simp), if_pos rfl]
 split <;> rfl
theorem zl5_ (k : Nat) : (2 ^ 8) ^ k = 2 ^ (8 * k) := by rw [Nat.pow_mul]
theorem zca_ (s : List UInt8) : w7_ 5 8 false (x4_ s) = some s ∧ (x4_ s).length = (8 * s.length + 4) / 5 ∧ ∀ x ∈ x4_ s, x.toNat < 32 := by
 have h85 := zfc_ s
 unfold w7_ at h85
 rw [if_neg (by rw [zcS_ (zei_ s)]; simp), if_pos rfl] at h85
 have hV := zcR_ s (zei_ s)
 rw [zl5_] at hV
 have hD := zgp_ (by decide : 0 < 2 ^ 8) s (zei_ s)
 by_cases h : 8 * s.length % 5 = 0
 · rw [if_pos h] at h85
   injection h85 with h85
   have hm : 5 * (8 * s.length / 5) = 8 * s.length := by omega
   have hl : (x4_ s).length = 8 * s.length / 5 := by rw [← h85, y9_]
   have hlt : ∀ x ∈ x4_ s, x.toNat < 2 ^ 5 := by rw [← h85]; exact zfa_ de_ de_ _ _
   have hv : y3_ (2 ^ 5) (x4_ s) = y3_ (2 ^ 8) s := by
    rw [← h85, zfb_ de_ de_]
    rw [← Nat.pow_mul, hm]
    exact hV
   refine ⟨?_, by omega, hlt⟩
   unfold w7_
   rw [if_neg (by rw [zcS_ hlt]; simp), if_neg si_, hl, hm, hv]
   rw [show 8 * s.length % 8 = 0 by omega, show 8 * s.length / 8 = s.length by omega]
   rw [if_neg (by simp [Nat.mod_one]), Nat.pow_zero, Nat.div_one, hD]
 · rw [if_neg h] at h85
   injection h85 with h85
   have hl : (x4_ s).length = 8 * s.length / 5 + 1 := by rw [← h85, y9_]
   have hm : 5 * (8 * s.length / 5 + 1) = 8 * s.length + (5 - 8 * s.length % 5) := by omega
   have hlt : ∀ x ∈ x4_ s, x.toNat < 2 ^ 5 := by rw [← h85]; exact zfa_ de_ de_ _ _
   have hv : y3_ (2 ^ 5) (x4_ s) = y3_ (2 ^ 8) s * 2 ^ (5 - 8 * s.length % 5) := by
    rw [← h85, zfb_ de_ de_]
    rw [← Nat.pow_mul, hm, Nat.pow_add]
    exact Nat.mul_lt_mul_of_pos_right hV (Nat.two_pow_pos _)
   refine ⟨?_, by omega, hlt⟩
   unfold w7_
   rw [if_neg (by rw [zcS_ hlt]; simp), if_neg si_, hl, hm, hv]
   rw [show (8 * s.length + (5 - 8 * s.length % 5)) % 8 = 5 - 8 * s.length % 5 by omega, show (8 * s.length + (5 - 8 * s.length % 5)) / 8 = s.length by omega]
   rw [if_neg, Nat.mul_div_cancel _ (Nat.two_pow_pos _), hD]
   rw [Nat.mul_mod_left]
   omega
theorem zl6_ {w b : List UInt8} (h : w7_ 5 8 false w = some b) : x4_ b = w ∧ b.length = 5 * w.length / 8 := by
 unfold w7_ at h
 split at h
 · cases h
 rename_i h1
 rw [if_neg si_] at h
 split at h
 · cases h
 rename_i h2
 injection h with h
 have hlt := zl4_ h1
 rw [not_or, Classical.not_not] at h2
 obtain ⟨h2, h3⟩ := h2
 have hW := zcR_ w hlt
 rw [← Nat.pow_mul] at hW
 have hbl : b.length = 5 * w.length / 8 := by rw [← h, y9_]
 have hV : y3_ (2 ^ 8) b = y3_ (2 ^ 5) w / 2 ^ (5 * w.length % 8) := by
  rw [← h, zfb_ de_ de_]
  rw [← Nat.pow_mul]
  refine Nat.div_lt_of_lt_mul ?_
  rw [← Nat.pow_add]
  rwa [show 5 * w.length % 8 + 8 * (5 * w.length / 8) = 5 * w.length by omega]
 have hdv : y3_ (2 ^ 5) w / 2 ^ (5 * w.length % 8) * 2 ^ (5 * w.length % 8) = y3_ (2 ^ 5) w := Nat.div_mul_cancel (Nat.dvd_of_mod_eq_zero h3)
 have hD := zgp_ (by decide : 0 < 2 ^ 5) w hlt
 refine ⟨?_, hbl⟩
 have h85 := zfc_ b
 unfold w7_ at h85
 rw [if_neg (by rw [zcS_ (zei_ b)]; simp), if_pos rfl, hbl, hV] at h85
 by_cases h0 : 5 * w.length % 8 = 0
 · rw [if_pos om_, h0, Nat.pow_zero, Nat.div_one, show 8 * (5 * w.length / 8) / 5 = w.length by omega, hD] at h85
   injection h85 with h85
   exact h85.symm
 · rw [if_neg om_, show 8 * (5 * w.length / 8) / 5 + 1 = w.length by omega, show 5 - 8 * (5 * w.length / 8) % 5 = 5 * w.length % 8 by omega, hdv, hD] at h85
   injection h85 with h85
   exact h85.symm
structure S8 where
 a : Int
 b : Int
 c : Int
 d : Int
 e : Int
 f : Int
 g : Int
 h : Int
def u32 (x : Int) : Int := IntKind.u32.wrap x
def xo (x y : Int) : Int := bits .xor .u32 x y
def an (x y : Int) : Int := bits .and .u32 x y
def nt (x : Int) : Int := bits .xor .u32 4294967295 x
def orr (x y : Int) : Int := bits .or .u32 x y
def rotr (n : Nat) (x : Int) : Int := orr (u32 (x * 2 ^ (32 - n))) (x / 2 ^ n)
theorem zl7_ (x y : Int) : orr x y = orr y x := by
 unfold orr bits
 simp only []
 rw [BitVec.or_comm]
def zdQ_ (w16 w15 w7 w2 : Int) : Int := u32 (u32 (u32 (w16 + xo (xo (rotr 7 w15) (rotr 18 w15)) (w15 / 2 ^ 3)) + w7) + xo (xo (rotr 17 w2) (rotr 19 w2)) (w2 / 2 ^ 10))
def zbJ_ : Nat → List Int → List Int
 | 0, l => l
 | n + 1, l => zbJ_ n (l ++ [zdQ_ (l.getD (l.length - 16) 0) (l.getD (l.length - 15) 0) (l.getD (l.length - 7) 0) (l.getD (l.length - 2) 0)])
theorem zie_ (n : Nat) (l : List Int) : zbJ_ (n + 1) l = (fun m => m ++ [zdQ_ (m.getD (m.length - 16) 0) (m.getD (m.length - 15) 0) (m.getD (m.length - 7) 0) (m.getD (m.length - 2) 0)]) (zbJ_ n l) := by
 induction n generalizing l with
 | zero => rfl
 | succ n ih =>
   rw [zbJ_, ih]
   rfl
theorem zej_ (n : Nat) (l : List Int) : (zbJ_ n l).length = l.length + n := by
 induction n generalizing l with
 | zero => rfl
 | succ n ih => rw [zbJ_, ih]; simp; omega
def rX (s : S8) (k w : Int) : Int := u32 (u32 (u32 (u32 (s.h + xo (xo (rotr 6 s.e) (rotr 11 s.e)) (rotr 25 s.e)) + xo (an s.e s.f) (an (nt s.e) s.g)) + k) + w)
def rY (s : S8) : Int := u32 (xo (xo (rotr 2 s.a) (rotr 13 s.a)) (rotr 22 s.a) + xo (xo (an s.a s.b) (an s.a s.c)) (an s.b s.c))
def zek_ (s : S8) (k w : Int) : S8 := ⟨u32 (rX s k w + rY s), s.a, s.b, s.c, u32 (s.d + rX s k w), s.e, s.f, s.g⟩
def zaV_ : List (Int × Int) → S8 → S8
 | [], s => s
 | (k, w) :: r, s => zaV_ r (zek_ s k w)
theorem zif_ (l : List (Int × Int)) (k w : Int) (s : S8) : zaV_ (l ++ [(k, w)]) s = zek_ (zaV_ l s) k w := by
 induction l generalizing s with
 | nil => rfl
 | cons x r ih => obtain ⟨a, b⟩ := x; rw [List.cons_append, zaV_, zaV_, ih]
def addS (s t : S8) : S8 := ⟨u32 (s.a + t.a), u32 (s.b + t.b), u32 (s.c + t.c), u32 (s.d + t.d), u32 (s.e + t.e), u32 (s.f + t.f), u32 (s.g + t.g), u32 (s.h + t.h)⟩
def kTab : List Int := [0x428a2f98, 0x71374491, 0xb5c0fbcf, 0xe9b5dba5, 0x3956c25b, 0x59f111f1, 0x923f82a4, 0xab1c5ed5,
 0xd807aa98, 0x12835b01, 0x243185be, 0x550c7dc3, 0x72be5d74, 0x80deb1fe, 0x9bdc06a7, 0xc19bf174,
 0xe49b69c1, 0xefbe4786, 0x0fc19dc6, 0x240ca1cc, 0x2de92c6f, 0x4a7484aa, 0x5cb0a9dc, 0x76f988da,
 0x983e5152, 0xa831c66d, 0xb00327c8, 0xbf597fc7, 0xc6e00bf3, 0xd5a79147, 0x06ca6351, 0x14292967,
 0x27b70a85, 0x2e1b2138, 0x4d2c6dfc, 0x53380d13, 0x650a7354, 0x766a0abb, 0x81c2c92e, 0x92722c85,
 0xa2bfe8a1, 0xa81a664b, 0xc24b8b70, 0xc76c51a3, 0xd192e819, 0xd6990624, 0xf40e3585, 0x106aa070,
 0x19a4c116, 0x1e376c08, 0x2748774c, 0x34b0bcb5, 0x391c0cb3, 0x4ed8aa4a, 0x5b9cca4f, 0x682e6ff3,
 0x748f82ee, 0x78a5636f, 0x84c87814, 0x8cc70208, 0x90befffa, 0xa4506ceb, 0xbef9a3f7, 0xc67178f2]
theorem zem_ : kTab.length = 64 := by rfl
def zbd_ : S8 := ⟨0x6a09e667, 0xbb67ae85, 0x3c6ef372, 0xa54ff53a, 0x510e527f, 0x9b05688c, 0x1f83d9ab, 0x5be0cd19⟩
def zcn_ (b0 b1 b2 b3 : Int) : Int := orr (orr (orr (u32 (b0 * 2 ^ 24)) (u32 (b1 * 2 ^ 16))) (u32 (b2 * 2 ^ 8))) b3
def zad_ : List UInt8 → List Int
 | b0 :: b1 :: b2 :: b3 :: r => zcn_ b0.toNat b1.toNat b2.toNat b3.toNat :: zad_ r
 | _ => []
def zam_ (b : List UInt8) : List Int := zbJ_ 48 (zad_ b)
def zbx_ (s : S8) (b : List UInt8) : S8 := addS s (zaV_ (kTab.zip (zam_ b)) s)
def soak (n : Nat) (s : S8) (l : List UInt8) : S8 :=
 match n with
 | 0 => s
 | n + 1 => soak n (zbx_ s (l.take 64)) (l.drop 64)
theorem zgq_ (n : Nat) (s : S8) (l : List UInt8) : soak (n + 1) s l = zbx_ (soak n s l) ((l.drop (64 * n)).take 64) := by
 induction n generalizing s l with
 | zero => simp [soak]
 | succ n ih =>
   rw [soak, ih, soak, List.drop_drop]
   congr 3
   omega
theorem zig_ (n : Nat) (s : S8) (l r : List UInt8) (h : 64 * n ≤ l.length) : soak n s (l ++ r) = soak n s l := by
 induction n generalizing s l with
 | zero => rfl
 | succ n ih =>
   rw [soak, soak, List.take_append_of_le_length om_, List.drop_append_of_le_length om_, ih _ _ so_]
structure FedS (m : List UInt8) (v : S8) (wait : List UInt8) : Prop where
 v : v = soak (m.length / 64) zbd_ m
 len : wait.length = 64
 rest : wait.take (m.length % 64) = m.drop (64 * (m.length / 64))
theorem zl8_ : FedS [] zbd_ (List.replicate 64 0) := ⟨rfl, by simp, by simp⟩
theorem zl9_ {m : List UInt8} {v : S8} {wait b : List UInt8} (h : FedS m v wait) (k : Nat) (hk : k = min (64 - m.length % 64) b.length) :
  (m.length + k < 64 * (m.length / 64) + 64 → FedS (m ++ b.take k) v (wait.take (m.length % 64) ++ b.take k ++ wait.drop (m.length % 64 + k))) ∧
  (m.length + k = 64 * (m.length / 64) + 64 → FedS (m ++ b.take k) (zbx_ v (wait.take (m.length % 64) ++ b.take k ++ wait.drop (m.length % 64 + k))) (wait.take (m.length % 64) ++ b.take k ++ wait.drop (m.length % 64 + k))) := by
 have hkb : k ≤ b.length := by omega
 have hlt : (b.take k).length = k := by rw [List.length_take]; omega
 have hw := h.len
 have hml : (m ++ b.take k).length = m.length + k := by rw [List.length_append, hlt]
 have hwl : (wait.take (m.length % 64) ++ b.take k ++ wait.drop (m.length % 64 + k)).length = 64 := by simp only [List.length_append, List.length_take, List.length_drop]; omega
 constructor
 · intro hs
   have hd : (m.length + k) / 64 = m.length / 64 := by omega
   have hmo : (m.length + k) % 64 = m.length % 64 + k := by omega
   refine ⟨?_, hwl, ?_⟩
   · rw [hml, hd, zig_ _ _ _ _ om_]; exact h.v
   · rw [hml, hmo, hd, List.take_append_of_le_length (by simp only [List.length_append, List.length_take]; omega), List.take_of_length_le (by simp only [List.length_append, List.length_take]; omega), h.rest, List.drop_append_of_le_length om_]
 · intro hs
   have hd : (m.length + k) / 64 = m.length / 64 + 1 := by omega
   have hmo : (m.length + k) % 64 = 0 := by omega
   refine ⟨?_, hwl, ?_⟩
   · rw [hml, hd, zgq_, zig_ _ _ _ _ om_, ← h.v, h.rest]
     congr 1
     rw [List.drop_append_of_le_length om_, show wait.drop (m.length % 64 + k) = [] from List.drop_eq_nil_of_le om_, List.append_nil]
     exact (List.take_of_length_le (by simp only [List.length_append, List.length_drop, List.length_take]; omega)).symm
   · rw [hml, hmo, hd, List.take_zero, List.drop_eq_nil_of_le (by rw [List.length_append]; omega)]
def zaW_ (n : Nat) : List UInt8 := [56, 48, 40, 32, 24, 16, 8, 0].map fun k => UInt8.ofNat (n * 8 / 2 ^ k % 256)
def zae_ (n : Nat) : Nat := (119 - n % 64) % 64
def zaS_ (b : List UInt8) : List UInt8 := b ++ [128] ++ List.replicate (zae_ b.length) 0 ++ zaW_ b.length
theorem zih_ (b : List UInt8) : (zaS_ b).length % 64 = 0 := by
 simp only [zaS_, zae_, zaW_, List.length_append, List.length_replicate, List.length_map, List.length_cons, List.length_nil]
 omega
def z9_ (b : List UInt8) : S8 := soak ((zaS_ b).length / 64) zbd_ (zaS_ b)
def s8L (s : S8) : List Int := [s.a, s.b, s.c, s.d, s.e, s.f, s.g, s.h]
def q5_ (s : S8) : List UInt8 := (s8L s).flatMap fun x => [UInt8.ofNat (x / 2 ^ 24).toNat, UInt8.ofNat (x / 2 ^ 16).toNat, UInt8.ofNat (x / 2 ^ 8).toNat, UInt8.ofNat x.toNat]
def hexC (n : Nat) : UInt8 := UInt8.ofNat (if n < 10 then 48 + n else 87 + n)
def hexB (l : List UInt8) : List UInt8 := l.flatMap fun c => [hexC (c.toNat / 16), hexC (c.toNat % 16)]
def hexT (b : List UInt8) : List UInt8 := hexB (q5_ (z9_ b))
theorem zbW_ (s : S8) : (q5_ s).length = 32 := by rfl
theorem zeo_ (l : List UInt8) : (hexB l).length = 2 * l.length := by
 induction l with
 | nil => rfl
 | cons x r ih => simp only [hexB, List.flatMap_cons, List.length_append, List.length_cons, List.length_nil] at *; omega
theorem zep_ (b : List UInt8) : (hexT b).length = 64 := by rw [hexT, zeo_, zbW_]
end Go.Proofs.YtembdkodajichaaGreatDoor
