/- Words of five bits as texts, plain: the check is linear; written and read. -/
import Derived.Test.YtembdkodajichaaGreatDoorMSpec
set_option linter.unusedSimpArgs false
set_option linter.unusedVariables false
namespace Go.Proofs.YtembdkodajichaaGreatDoor
open Go.RowKit
/-! the check -/
def turnK : List Nat := [0x3b6a57b2, 0x26508e6d, 0x1ea119fa, 0x3d4233dd, 0x2a1462b3]
def turnG : List Nat → Nat → Nat → Nat
 | [], _, s => s
 | k :: r, t, s => turnG r (t / 2) (s ^^^ (if t % 2 = 1 then k else 0))
def poly1 (s w : Nat) : Nat := turnG turnK (s / 2 ^ 25) (((s % 2 ^ 25) * 32) ^^^ w)
def poly : Nat → List UInt8 → Nat
 | s, [] => s
 | s, w :: r => poly (poly1 s w.toNat) r
theorem poly_append (s : Nat) (l r : List UInt8) : poly s (l ++ r) = poly (poly s l) r := by
 induction l generalizing s with
 | nil => rfl
 | cons x l ih => simp only [List.cons_append, poly]; exact ih _
theorem turnG_xor (ks : List Nat) (t a b : Nat) : turnG ks t (a ^^^ b) = turnG ks t a ^^^ b := by
 induction ks generalizing t a with
 | nil => rfl
 | cons k r ih =>
   rw [turnG, turnG, ← ih]
   congr 1
   rw [Nat.xor_assoc, Nat.xor_comm b, ← Nat.xor_assoc]
def genT (t : Nat) : Nat := turnG turnK t 0
theorem genT_xor : ∀ t u : Fin 32, genT (t.val ^^^ u.val) = genT t.val ^^^ genT u.val := by decide +kernel
theorem genT_lt : ∀ t : Fin 32, genT t.val < 2 ^ 30 := by decide +kernel
theorem genT_zero : ∀ t : Fin 32, genT t.val % 32 = 0 → t.val = 0 := by decide +kernel
theorem poly1_eq (s w : Nat) : poly1 s w = ((s % 2 ^ 25) * 32) ^^^ w ^^^ genT (s / 2 ^ 25) := by
 unfold poly1 genT
 have := turnG_xor turnK (s / 2 ^ 25) 0 (((s % 2 ^ 25) * 32) ^^^ w)
 rw [Nat.zero_xor] at this
 rw [this, Nat.xor_comm]
theorem xor0 {a b : Nat} (h : a ^^^ b = 0) : a = b := by
 have h2 := congrArg (fun z => z ^^^ b) h
 simp only [Nat.xor_assoc, Nat.xor_self, Nat.xor_zero, Nat.zero_xor] at h2
 exact h2
theorem xor_div (a b n : Nat) : (a ^^^ b) / 2 ^ n = a / 2 ^ n ^^^ b / 2 ^ n := by
 rw [← Nat.shiftRight_eq_div_pow, ← Nat.shiftRight_eq_div_pow, ← Nat.shiftRight_eq_div_pow, Nat.shiftRight_xor_distrib]
theorem xor_mul (a b n : Nat) : (a ^^^ b) * 2 ^ n = a * 2 ^ n ^^^ b * 2 ^ n := by
 rw [← Nat.shiftLeft_eq, ← Nat.shiftLeft_eq, ← Nat.shiftLeft_eq, Nat.shiftLeft_xor_distrib]
theorem poly1_xor (s d w e : Nat) (hs : s < 2 ^ 30) (hd : d < 2 ^ 30) : poly1 (s ^^^ d) (w ^^^ e) = poly1 s w ^^^ poly1 d e := by
 rw [poly1_eq, poly1_eq, poly1_eq, xor_div, Nat.xor_mod_two_pow]
 have h1 : s / 2 ^ 25 < 32 := by omega
 have h2 : d / 2 ^ 25 < 32 := by omega
 have hg := genT_xor ⟨_, h1⟩ ⟨_, h2⟩
 simp only at hg
 rw [hg]
 have hm : ((s % 2 ^ 25) ^^^ (d % 2 ^ 25)) * 32 = (s % 2 ^ 25) * 32 ^^^ (d % 2 ^ 25) * 32 := xor_mul _ _ 5
 rw [hm]
 generalize (s % 2 ^ 25) * 32 = A
 generalize (d % 2 ^ 25) * 32 = B
 generalize genT (s / 2 ^ 25) = C
 generalize genT (d / 2 ^ 25) = D
 ac_rfl
theorem poly1_lt (s w : Nat) (hs : s < 2 ^ 30) (hw : w < 2 ^ 30) : poly1 s w < 2 ^ 30 := by
 rw [poly1_eq]
 have h1 : s / 2 ^ 25 < 32 := by omega
 exact Nat.xor_lt_two_pow (Nat.xor_lt_two_pow om_ hw) (genT_lt ⟨_, h1⟩)
theorem poly_lt (s : Nat) (l : List UInt8) (hs : s < 2 ^ 30) : poly s l < 2 ^ 30 := by
 induction l generalizing s with
 | nil => exact hs
 | cons w r ih => rw [poly]; exact ih _ (poly1_lt s _ hs (by have := w.toNat_lt; omega))
theorem poly1_small (x w : Nat) (hx : x < 2 ^ 25) (hw : w < 32) : poly1 x w = x * 32 + w := by
 rw [poly1_eq, Nat.div_eq_of_lt hx, Nat.mod_eq_of_lt hx]
 have h0 : genT 0 = 0 := by decide +kernel
 rw [h0, Nat.xor_zero]
 have := Nat.two_pow_add_eq_or_of_lt (i := 5) (b := w) om_ x
 rw [Nat.mul_comm (2 ^ 5) x] at this
 rw [show (32 : Nat) = 2 ^ 5 from rfl, this]
 apply Nat.eq_of_testBit_eq
 intro i
 rw [Nat.testBit_xor, Nat.testBit_or]
 by_cases hi : i < 5
 · have e : (x * 2 ^ 5).testBit i = false := by
    rw [← Nat.shiftLeft_eq, Nat.testBit_shiftLeft]
    simp
    omega
   rw [e]
   simp
 · have e : w.testBit i = false := Nat.testBit_lt_two_pow (Nat.lt_of_lt_of_le hw (by show 2 ^ 5 ≤ 2 ^ i; exact Nat.pow_le_pow_right om_ om_))
   rw [e]
   simp
def sixW (c : Nat) : List UInt8 := [25, 20, 15, 10, 5, 0].map fun i => UInt8.ofNat (c / 2 ^ i % 32)
def zeros6 : List UInt8 := [0, 0, 0, 0, 0, 0]
theorem ofNat32 (n : Nat) : (UInt8.ofNat (n % 32)).toNat = n % 32 := by
 rw [UInt8.toNat_ofNat']
 omega
theorem poly_six (c : Nat) (hc : c < 2 ^ 30) : poly 0 (sixW c) = c := by
 simp only [sixW, List.map_cons, List.map_nil, poly, ofNat32]
 have h1 := poly1_small 0 (c / 2 ^ 25 % 32) om_ om_
 have h2 := poly1_small (0 * 32 + c / 2 ^ 25 % 32) (c / 2 ^ 20 % 32) om_ om_
 have h3 := poly1_small ((0 * 32 + c / 2 ^ 25 % 32) * 32 + c / 2 ^ 20 % 32) (c / 2 ^ 15 % 32) om_ om_
 have h4 := poly1_small (((0 * 32 + c / 2 ^ 25 % 32) * 32 + c / 2 ^ 20 % 32) * 32 + c / 2 ^ 15 % 32) (c / 2 ^ 10 % 32) om_ om_
 have h5 := poly1_small ((((0 * 32 + c / 2 ^ 25 % 32) * 32 + c / 2 ^ 20 % 32) * 32 + c / 2 ^ 15 % 32) * 32 + c / 2 ^ 10 % 32) (c / 2 ^ 5 % 32) om_ om_
 have h6 := poly1_small (((((0 * 32 + c / 2 ^ 25 % 32) * 32 + c / 2 ^ 20 % 32) * 32 + c / 2 ^ 15 % 32) * 32 + c / 2 ^ 10 % 32) * 32 + c / 2 ^ 5 % 32) (c / 2 ^ 0 % 32) om_ om_
 rw [h1, h2, h3, h4, h5, h6]
 omega
def xorL : List UInt8 → List UInt8 → List UInt8
 | a :: l, b :: r => (a ^^^ b) :: xorL l r
 | _, _ => []
theorem poly_xor : ∀ (l r : List UInt8) (s d : Nat), l.length = r.length → s < 2 ^ 30 → d < 2 ^ 30 → poly (s ^^^ d) (xorL l r) = poly s l ^^^ poly d r
 | [], [], s, d, _, _, _ => rfl
 | a :: l, b :: r, s, d, h, hs, hd => by
   simp only [xorL, poly]
   rw [UInt8.toNat_xor, poly1_xor s d _ _ hs hd]
   have ha := a.toNat_lt
   have hb := b.toNat_lt
   exact poly_xor l r _ _ (by simpa using h) (poly1_lt _ _ hs om_) (poly1_lt _ _ hd om_)
 | [], _ :: _, _, _, h, _, _ => by simp at h
 | _ :: _, [], _, _, h, _, _ => by simp at h
theorem poly_sixW (s c : Nat) (hs : s < 2 ^ 30) (hc : c < 2 ^ 30) : poly s (sixW c) = poly s zeros6 ^^^ c := by
 have h := poly_xor zeros6 (sixW c) s 0 rfl hs om_
 rw [poly_six c hc, Nat.xor_zero] at h
 rw [← h]
 congr 1
 simp [zeros6, sixW, xorL]
theorem sixW_of (l : List UInt8) (h : l.length = 6) (hl : ∀ x ∈ l, x.toNat < 32) : ∃ c, c < 2 ^ 30 ∧ l = sixW c := by
 match l, h with
 | [a, b, c, d, e, f], _ =>
   have ha := hl a si_
   have hb := hl b si_
   have hc := hl c si_
   have hd := hl d si_
   have he := hl e si_
   have hf := hl f si_
   refine ⟨((((a.toNat * 32 + b.toNat) * 32 + c.toNat) * 32 + d.toNat) * 32 + e.toNat) * 32 + f.toNat, by omega, ?_⟩
   simp only [sixW, List.map_cons, List.map_nil, List.cons.injEq, ← UInt8.toNat_inj, ofNat32, and_true]
   refine ⟨by omega, by omega, by omega, by omega, by omega, by omega⟩
def hrpW (h : List UInt8) : List UInt8 := h.map (fun c => UInt8.ofNat (c.toNat / 32)) ++ 0 :: h.map (fun c => UInt8.ofNat (c.toNat % 32))
def headS (h : List UInt8) : Nat := poly 1 (hrpW h)
theorem headS_lt (h : List UInt8) : headS h < 2 ^ 30 := poly_lt _ _ om_
def fitC (h w : List UInt8) : Nat := poly (headS h) (w ++ zeros6) ^^^ 1
theorem fitC_lt (h w : List UInt8) : fitC h w < 2 ^ 30 := Nat.xor_lt_two_pow (poly_lt _ _ (headS_lt h)) om_
theorem fit_ok (h w : List UInt8) : poly (headS h) (w ++ sixW (fitC h w)) = 1 := by
 rw [poly_append, poly_sixW _ _ (poly_lt _ _ (headS_lt h)) (fitC_lt h w), ← poly_append]
 unfold fitC
 rw [← Nat.xor_assoc, Nat.xor_self, Nat.zero_xor]
theorem fit_only (h w l : List UInt8) (hl : l.length = 6) (hx : ∀ x ∈ l, x.toNat < 32) (hp : poly (headS h) (w ++ l) = 1) : l = sixW (fitC h w) := by
 obtain ⟨c, hc, rfl⟩ := sixW_of l hl hx
 congr 1
 rw [poly_append, poly_sixW _ _ (poly_lt _ _ (headS_lt h)) hc, ← poly_append] at hp
 unfold fitC
 rw [← hp, ← Nat.xor_assoc, Nat.xor_self, Nat.zero_xor]
theorem poly1_ne (d : Nat) (hd : d < 2 ^ 30) (h : d ≠ 0) : poly1 d 0 ≠ 0 := by
 intro h0
 rw [poly1_eq, Nat.xor_zero] at h0
 have hg := xor0 h0
 have h1 : d / 2 ^ 25 < 32 := by omega
 have h2 := genT_zero ⟨_, h1⟩ (by rw [← hg]; omega)
 simp only at h2
 rw [h2] at hg
 have h3 : genT 0 = 0 := by decide +kernel
 rw [h3] at hg
 omega
theorem polyz_ne (n d : Nat) (hd : d < 2 ^ 30) (h : d ≠ 0) : poly d (List.replicate n 0) ≠ 0 := by
 induction n generalizing d with
 | zero => exact h
 | succ n ih =>
   rw [List.replicate_succ, poly]
   exact ih _ (poly1_lt _ _ hd de_) (poly1_ne d hd h)
theorem xorL_self (l : List UInt8) : xorL l (List.replicate l.length 0) = l := by
 induction l with
 | nil => rfl
 | cons a l ih => simp only [List.length_cons, List.replicate_succ, xorL, ih]; simp
theorem poly_one (s : Nat) (hs : s < 2 ^ 30) (l r : List UInt8) (a b : UInt8) (hab : a ≠ b) : poly s (l ++ a :: r) ≠ poly s (l ++ b :: r) := by
 rw [poly_append, poly_append, poly, poly]
 have hq := poly_lt s l hs
 generalize poly s l = q at *
 have ha := a.toNat_lt
 have hb := b.toNat_lt
 have h1 : poly1 q a.toNat = poly1 q b.toNat ^^^ (a.toNat ^^^ b.toNat) := by
  rw [poly1_eq, poly1_eq]
  generalize (q % 2 ^ 25) * 32 = A
  generalize genT (q / 2 ^ 25) = G
  have : A ^^^ b.toNat ^^^ G ^^^ (a.toNat ^^^ b.toNat) = A ^^^ a.toNat ^^^ G ^^^ (b.toNat ^^^ b.toNat) := by ac_rfl
  rw [this, Nat.xor_self, Nat.xor_zero]
 have hx : a.toNat ^^^ b.toNat < 2 ^ 30 := Nat.lt_of_lt_of_le (Nat.xor_lt_two_pow (n := 8) ha hb) om_
 have hne : a.toNat ^^^ b.toNat ≠ 0 := fun h => hab (UInt8.toNat_inj.1 (xor0 h))
 have h2 := poly_xor r (List.replicate r.length 0) (poly1 q b.toNat) (a.toNat ^^^ b.toNat) si_ (poly1_lt _ _ hq om_) hx
 rw [xorL_self, ← h1] at h2
 rw [h2]
 intro h3
 have h4 : poly (a.toNat ^^^ b.toNat) (List.replicate r.length 0) = 0 := by
  have := congrArg (fun z => poly (poly1 q b.toNat) r ^^^ z) h3
  simp only [← Nat.xor_assoc, Nat.xor_self, Nat.zero_xor] at this
  exact this
 exact polyz_ne _ _ hx hne h4
/-! letters -/
def letB : List UInt8 := [113, 112, 122, 114, 121, 57, 120, 56, 103, 102, 50, 116, 118, 100, 119, 48, 115, 51, 106, 110, 53, 52, 107, 104, 99, 101, 54, 109, 117, 97, 55, 108]
def letter (w : Nat) : UInt8 := letB.getD w 0
def findN (c : UInt8) : List UInt8 → Nat
 | [] => 0
 | x :: r => if x = c then 0 else findN c r + 1
def wordOf (c : UInt8) : Nat := findN c letB
theorem word_letter : ∀ w : Fin 32, wordOf (letter w.val) = w.val := by decide +kernel
theorem letter_word : ∀ c : Fin 256, wordOf (UInt8.ofNat c.val) < 32 → letter (wordOf (UInt8.ofNat c.val)) = UInt8.ofNat c.val := by decide +kernel
theorem wordOf_le : ∀ c : Fin 256, wordOf (UInt8.ofNat c.val) ≤ 32 := by decide +kernel
theorem letter_small : ∀ w : Fin 32, (letter w.val).toNat ≠ 49 ∧ 33 ≤ (letter w.val).toNat ∧ (letter w.val).toNat ≤ 126 ∧ ¬ (65 ≤ (letter w.val).toNat ∧ (letter w.val).toNat ≤ 90) := by decide +kernel
theorem all_u8 {p : UInt8 → Prop} (h : ∀ c : Fin 256, p (UInt8.ofNat c.val)) (c : UInt8) : p c := by
 have := h ⟨c.toNat, c.toNat_lt⟩
 simpa using this
theorem letter_of (c : UInt8) (h : wordOf c < 32) : letter (wordOf c) = c := all_u8 (p := fun c => wordOf c < 32 → letter (wordOf c) = c) letter_word c h
theorem word_le (c : UInt8) : wordOf c ≤ 32 := all_u8 (p := fun c => wordOf c ≤ 32) wordOf_le c
def lowB (c : UInt8) : UInt8 := if 65 ≤ c.toNat ∧ c.toNat ≤ 90 then UInt8.ofNat (c.toNat + 32) else c
def isUp (c : UInt8) : Bool := decide (65 ≤ c.toNat ∧ c.toNat ≤ 90)
def isLow (c : UInt8) : Bool := decide (97 ≤ c.toNat ∧ c.toNat ≤ 122)
def hrpC (c : UInt8) : Bool := decide (33 ≤ c.toNat) && decide (c.toNat ≤ 126) && !isUp c
def hrpOk (h : List UInt8) : Bool := decide (1 ≤ h.length) && decide (h.length ≤ 83) && h.all hrpC
def encE (h w : List UInt8) : Int := if hrpOk h = false then 60 else if w.any (fun x => decide (31 < x.toNat)) = true then 60 else if h.length + w.length + 7 > 32768 then 3 else 0
def encT (h w : List UInt8) : List UInt8 := h ++ 49 :: (w.map (fun x => letter x.toNat) ++ (sixW (fitC h w)).map (fun x => letter x.toNat))
def lastOne : List UInt8 → Option Nat
 | [] => none
 | c :: r => if (lastOne r).isSome then (lastOne r).map (· + 1) else if c = 49 then some 0 else none
def badC (c : UInt8) : Bool := decide (c.toNat ≤ 32) || decide (127 ≤ c.toNat)
def decBad (s : List UInt8) : Bool := s.any badC || (s.any isLow && s.any isUp) || (match lastOne s with | none => true | some k => decide (k < 1) || decide (83 < k) || decide (s.length ≤ k + 6))
def atOf (s : List UInt8) : Nat := (lastOne s).getD 0
def tailW (s : List UInt8) : List UInt8 := ((s.map lowB).drop (atOf s + 1)).map fun c => UInt8.ofNat (wordOf c)
def decH (s : List UInt8) : List UInt8 := (s.map lowB).take (atOf s)
def decW (s : List UInt8) : List UInt8 := (tailW s).take ((tailW s).length - 6)
def decE (s : List UInt8) : Int :=
 if s.length > 32768 then 3 else if decBad s = true then 60 else if (tailW s).any (fun x => decide (31 < x.toNat)) = true then 60
 else if poly (headS (decH s)) (tailW s) ≠ 1 then 61 else 0
theorem lastOne_app (l r : List UInt8) : lastOne (l ++ r) = match lastOne r with | some k => some (l.length + k) | none => lastOne l := by
 induction l with
 | nil => simp [lastOne]; cases lastOne r <;> rfl
 | cons c l ih =>
   rw [List.cons_append, lastOne, ih, lastOne]
   cases lastOne r with
   | some k => simp; omega
   | none => cases lastOne l <;> simp
theorem lastOne_none {l : List UInt8} (h : ∀ c ∈ l, c ≠ 49) : lastOne l = none := by
 induction l with
 | nil => rfl
 | cons c l ih =>
   rw [lastOne, ih (fun x hx => h x (by simp [hx]))]
   simp [h c si_]
theorem lastOne_some {l : List UInt8} {k : Nat} (h : lastOne l = some k) : ∃ a b, l = a ++ 49 :: b ∧ a.length = k ∧ ∀ c ∈ b, c ≠ 49 := by
 induction l generalizing k with
 | nil => cases h
 | cons c l ih =>
   rw [lastOne] at h
   cases hl : lastOne l with
   | some j =>
     rw [hl] at h
     simp only [Option.isSome_some, if_true, Option.map_some, Option.some.injEq] at h
     obtain ⟨a, b, rfl, ha, hb⟩ := ih hl
     exact ⟨c :: a, b, rfl, by simp; omega, hb⟩
   | none =>
     rw [hl] at h
     simp only [Option.isSome_none, Bool.false_eq_true, if_false] at h
     split at h
     · rename_i hc
       injection h with h
       subst hc
       refine ⟨[], l, rfl, h, ?_⟩
       intro x hx e
       subst e
       clear ih h
       induction l with
       | nil => cases hx
       | cons y l ih2 =>
         rw [lastOne] at hl
         cases hll : lastOne l with
         | some j => rw [hll] at hl; simp at hl
         | none =>
           rw [hll] at hl
           rcases List.mem_cons.1 hx with rfl | hx
           · simp at hl
           · exact ih2 hll hx
     · cases h
theorem lowB_id {c : UInt8} (h : isUp c = false) : lowB c = c := by
 unfold isUp at h
 unfold lowB
 rw [if_neg (by simpa using h)]
theorem lowB_low : ∀ c : UInt8, isUp (lowB c) = false := all_u8 (p := fun c => isUp (lowB c) = false) (by decide +kernel)
theorem lowB_one : ∀ c : UInt8, (lowB c = 49) = (c = 49) := all_u8 (p := fun c => (lowB c = 49) = (c = 49)) (fun c => by
 have : ∀ c : Fin 256, decide (lowB (UInt8.ofNat c.val) = 49) = decide (UInt8.ofNat c.val = 49) := by decide +kernel
 exact propext (by simpa using this c))
theorem lastOne_low (l : List UInt8) : lastOne (l.map lowB) = lastOne l := by
 induction l with
 | nil => rfl
 | cons c l ih => rw [List.map_cons, lastOne, lastOne, ih]; simp only [lowB_one]
theorem dec_enc (h w : List UInt8) (he : encE h w = 0) : decE (encT h w) = 0 ∧ decH (encT h w) = h ∧ decW (encT h w) = w ∧ (encT h w).map lowB = encT h w := by
 unfold encE at he
 split at he
 · cases he
 rename_i h1
 split at he
 · cases he
 rename_i h2
 split at he
 · cases he
 rename_i h3
 simp only [Bool.not_eq_false] at h1
 have hall : ∀ x ∈ w, x.toNat < 32 := by
  intro x hx
  simp only [List.any_eq_true, decide_eq_true_eq, not_exists, not_and] at h2
  have := h2 x hx
  omega
 unfold hrpOk at h1
 simp only [Bool.and_eq_true, decide_eq_true_eq, List.all_eq_true] at h1
 obtain ⟨⟨hl1, hl2⟩, hc⟩ := h1
 have hcl : ∀ c ∈ h, isUp c = false ∧ badC c = false := by
  intro c hm
  have := hc c hm
  unfold hrpC at this
  simp only [Bool.and_eq_true, decide_eq_true_eq, Bool.not_eq_true'] at this
  refine ⟨this.2, ?_⟩
  unfold badC
  simp
  omega
 have hsix : ∀ x ∈ sixW (fitC h w), x.toNat < 32 := by
  intro x hx
  unfold sixW at hx
  obtain ⟨i, _, rfl⟩ := List.mem_map.1 hx
  rw [ofNat32]
  omega
 have hall2 : ∀ x ∈ w ++ sixW (fitC h w), x.toNat < 32 := by
  intro x hx
  rcases List.mem_append.1 hx with hx | hx
  · exact hall x hx
  · exact hsix x hx
 have hlet : ∀ c ∈ (w ++ sixW (fitC h w)).map (fun x => letter x.toNat), c ≠ 49 ∧ isUp c = false ∧ badC c = false := by
  intro c hm
  obtain ⟨x, hx, rfl⟩ := List.mem_map.1 hm
  have := letter_small ⟨_, hall2 x hx⟩
  simp only at this
  refine ⟨fun e => this.1 (by rw [e]; rfl), ?_, ?_⟩
  · unfold isUp; simpa using this.2.2.2
  · unfold badC; simp; omega
 have hT : encT h w = h ++ 49 :: (w ++ sixW (fitC h w)).map (fun x => letter x.toNat) := by unfold encT; rw [List.map_append]
 have hlast : lastOne (encT h w) = some h.length := by
  rw [hT, lastOne_app, lastOne, lastOne_none (fun c hm => (hlet c hm).1)]
  simp
 have hup : ∀ c ∈ encT h w, isUp c = false ∧ badC c = false := by
  intro c hm
  rw [hT] at hm
  rcases List.mem_append.1 hm with hm | hm
  · exact hcl c hm
  · rcases List.mem_cons.1 hm with rfl | hm
    · exact ⟨by decide, by decide⟩
    · exact (hlet c hm).2
 have hlow : (encT h w).map lowB = encT h w := by
  conv => rhs; rw [← List.map_id (encT h w)]
  exact List.map_congr_left fun c hm => by rw [lowB_id (hup c hm).1]; rfl
 have hat : atOf (encT h w) = h.length := by unfold atOf; rw [hlast]; rfl
 have hH : decH (encT h w) = h := by
  unfold decH
  rw [hlow, hat, hT]
  simp
 have htail : tailW (encT h w) = w ++ sixW (fitC h w) := by
  unfold tailW
  rw [hlow, hat, hT]
  rw [show h.length + 1 = (h ++ [49]).length by simp, show h ++ 49 :: (w ++ sixW (fitC h w)).map (fun x => letter x.toNat) = (h ++ [49]) ++ (w ++ sixW (fitC h w)).map (fun x => letter x.toNat) by simp, List.drop_left, List.map_map]
  conv => rhs; rw [← List.map_id (w ++ sixW (fitC h w))]
  refine List.map_congr_left fun x hx => ?_
  have := word_letter ⟨_, hall2 x hx⟩
  simp only [Function.comp_apply, id_eq] at this ⊢
  rw [this]
  simp
 have hlen : (encT h w).length = h.length + w.length + 7 := by rw [hT]; simp [sixW]; omega
 refine ⟨?_, hH, ?_, hlow⟩
 · unfold decE
   rw [if_neg om_]
   rw [if_neg]
   · rw [htail, if_neg, hH, fit_ok]
     · simp
     · simp only [List.any_eq_true, decide_eq_true_eq, not_exists, not_and]
       intro x hx
       have := hall2 x hx
       omega
   · unfold decBad
     rw [hlast]
     simp only [Bool.or_eq_true, Bool.and_eq_true, decide_eq_true_eq, List.any_eq_true, not_or]
     refine ⟨⟨?_, ?_⟩, ?_⟩
     · rintro ⟨c, hm, hb⟩
       rw [(hup c hm).2] at hb
       cases hb
     · rintro ⟨_, c, hm, hb⟩
       rw [(hup c hm).1] at hb
       cases hb
     · rw [hlen]
       omega
 · unfold decW
   rw [htail]
   simp [sixW]
theorem enc_dec (s : List UInt8) (he : decE s = 0) : encE (decH s) (decW s) = 0 ∧ encT (decH s) (decW s) = s.map lowB := by
 unfold decE at he
 split at he
 · cases he
 rename_i h0
 split at he
 · cases he
 rename_i h1
 split at he
 · cases he
 rename_i h2
 split at he
 · cases he
 rename_i h3
 simp only [Classical.not_not] at h3
 unfold decBad at h1
 cases hl : lastOne s with
 | none => rw [hl] at h1; simp at h1
 | some k =>
   rw [hl] at h1
   simp only [Bool.or_eq_true, Bool.and_eq_true, decide_eq_true_eq, List.any_eq_true, not_or] at h1
   obtain ⟨⟨hb, hud⟩, hk⟩ := h1
   have hat : atOf s = k := by unfold atOf; rw [hl]; rfl
   obtain ⟨a, b, hs, ha, hbn⟩ := lastOne_some hl
   subst hs
   have hlen : (a ++ 49 :: b).length = a.length + b.length + 1 := by simp; omega
   rw [hlen] at h0 hk
   have hH : decH (a ++ 49 :: b) = a.map lowB := by
    unfold decH
    rw [hat, ← ha, List.map_append, List.take_left' si_]
   have hW : tailW (a ++ 49 :: b) = b.map (fun c => UInt8.ofNat (wordOf (lowB c))) := by
    unfold tailW
    rw [hat, ← ha, List.map_append, List.map_cons, show a.length + 1 = ((a.map lowB) ++ [lowB 49]).length by simp, show a.map lowB ++ lowB 49 :: b.map lowB = (a.map lowB ++ [lowB 49]) ++ b.map lowB by simp, List.drop_left, List.map_map]
    rfl
   have hw32 : ∀ c ∈ b, wordOf (lowB c) < 32 := by
    intro c hc
    simp only [List.any_eq_true, decide_eq_true_eq, not_exists, not_and] at h2
    have := h2 (UInt8.ofNat (wordOf (lowB c))) (by rw [hW]; exact List.mem_map.2 ⟨c, hc, rfl⟩)
    have hle := word_le (lowB c)
    rw [UInt8.toNat_ofNat'] at this
    omega
   have hwt : ∀ c ∈ b, (UInt8.ofNat (wordOf (lowB c))).toNat = wordOf (lowB c) := by
    intro c hc
    have := hw32 c hc
    rw [UInt8.toNat_ofNat']
    omega
   have hall : ∀ x ∈ tailW (a ++ 49 :: b), x.toNat < 32 := by
    intro x hx
    rw [hW] at hx
    obtain ⟨c, hc, rfl⟩ := List.mem_map.1 hx
    rw [hwt c hc]
    exact hw32 c hc
   have hTl : (tailW (a ++ 49 :: b)).length = b.length := by rw [hW]; simp
   have hsplit : tailW (a ++ 49 :: b) = decW (a ++ 49 :: b) ++ (tailW (a ++ 49 :: b)).drop (b.length - 6) := by
    unfold decW
    rw [hTl, List.take_append_drop]
   have hfit := fit_only (decH (a ++ 49 :: b)) (decW (a ++ 49 :: b)) ((tailW (a ++ 49 :: b)).drop (b.length - 6)) (by simp [hTl]; omega) (fun x hx => hall x (List.mem_of_mem_drop hx)) (by rw [← hsplit]; exact h3)
   have hcl : ∀ c ∈ a, badC c = false := by
    intro c hc
    cases hbc : badC c with
    | false => rfl
    | true => exact absurd ⟨c, by simp [hc], hbc⟩ hb
   constructor
   · unfold encE
     rw [if_neg, if_neg, if_neg]
     · rw [hH]
       unfold decW
       rw [List.length_take, hTl]
       simp
       omega
     · simp only [List.any_eq_true, decide_eq_true_eq, not_exists, not_and]
       intro x hx
       have := hall x (List.mem_of_mem_take hx)
       omega
     · simp only [Bool.not_eq_false]
       rw [hH]
       unfold hrpOk
       simp only [Bool.and_eq_true, decide_eq_true_eq, List.all_eq_true, List.length_map]
       refine ⟨⟨by omega, by omega⟩, ?_⟩
       intro c hc
       obtain ⟨x, hx, rfl⟩ := List.mem_map.1 hc
       have h5 := hcl x hx
       have h6 := lowB_low x
       unfold hrpC
       rw [h6]
       unfold badC at h5
       simp only [Bool.or_eq_false_iff, decide_eq_false_iff_not] at h5
       unfold lowB
       split
       · rw [UInt8.toNat_ofNat']
         simp
         omega
       · simp
         omega
   · unfold encT
     rw [← hfit, ← List.map_append, ← hsplit, hW, hH, List.map_append, List.map_cons, List.map_map]
     congr 1
     rw [show lowB 49 = 49 by decide]
     congr 1
     refine List.map_congr_left fun c hc => ?_
     simp only [Function.comp_apply]
     rw [hwt c hc, letter_of _ (hw32 c hc)]
end Go.Proofs.YtembdkodajichaaGreatDoor
