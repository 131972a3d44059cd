/- Numbers of so many bits cut into such of others, plain: by the number that all of them make. -/
import Derived.Test.YtembdkodajichaaGreatDoorBechP
set_option linter.unusedSimpArgs false
set_option linter.unusedVariables false
namespace Go.Proofs.YtembdkodajichaaGreatDoor
open Go.RowKit
def valB (b : Nat) : List UInt8 → Nat := fun l => l.foldl (fun v x => v * b + x.toNat) 0
def digB (b : Nat) : Nat → Nat → List UInt8
 | 0, _ => []
 | n + 1, v => digB b n (v / b) ++ [UInt8.ofNat (v % b)]
theorem valB_nil (b : Nat) : valB b [] = 0 := rfl
theorem valB_snoc (b : Nat) (l : List UInt8) (x : UInt8) : valB b (l ++ [x]) = valB b l * b + x.toNat := by
 unfold valB
 rw [List.foldl_append]
 rfl
theorem digB_len (b n v : Nat) : (digB b n v).length = n := by
 induction n generalizing v with
 | zero => rfl
 | succ n ih => rw [digB, List.length_append, ih]; rfl
theorem digB_lt {b : Nat} (hb : b ≤ 256) (hb0 : 0 < b) (n v : Nat) : ∀ x ∈ digB b n v, x.toNat < b := by
 induction n generalizing v with
 | zero => intro x hx; cases hx
 | succ n ih =>
   intro x hx
   rw [digB] at hx
   rcases List.mem_append.1 hx with hx | hx
   · exact ih _ x hx
   · simp at hx
     subst hx
     have := Nat.mod_lt v hb0
     rw [UInt8.toNat_ofNat']
     omega
theorem valB_digB {b : Nat} (hb : b ≤ 256) (hb0 : 0 < b) (n v : Nat) (hv : v < b ^ n) : valB b (digB b n v) = v := by
 induction n generalizing v with
 | zero => simp at hv; subst hv; rfl
 | succ n ih =>
   rw [digB, valB_snoc, ih (v / b) (by rw [Nat.pow_succ] at hv; exact Nat.div_lt_of_lt_mul (by rw [Nat.mul_comm]; exact hv))]
   have h1 := Nat.mod_lt v hb0
   rw [UInt8.toNat_ofNat', Nat.mod_eq_of_lt (a := v % b) om_]
   have := Nat.div_add_mod v b
   rw [Nat.mul_comm] at this
   exact this
theorem snoc_ind {p : List UInt8 → Prop} (h0 : p []) (h1 : ∀ l x, p l → p (l ++ [x])) (l : List UInt8) : p l := by
 have : ∀ n, ∀ l : List UInt8, l.length = n → p l := by
  intro n
  induction n with
  | zero => intro l hl; rw [List.eq_nil_of_length_eq_zero hl]; exact h0
  | succ n ih =>
    intro l hl
    have hne : l ≠ [] := fun e => by subst e; simp at hl
    rw [← List.dropLast_concat_getLast hne]
    exact h1 _ _ (ih _ (by simp [hl]))
 exact this _ l rfl
theorem digB_valB {b : Nat} (hb0 : 0 < b) (l : List UInt8) (hl : ∀ x ∈ l, x.toNat < b) : digB b l.length (valB b l) = l := by
 induction l using snoc_ind with
 | h0 => rfl
 | h1 l x ih =>
   have hx := hl x si_
   rw [List.length_append, List.length_singleton, digB, valB_snoc]
   rw [show (valB b l * b + x.toNat) / b = valB b l by rw [Nat.mul_comm, Nat.mul_add_div hb0, Nat.div_eq_of_lt hx]; rfl]
   rw [show (valB b l * b + x.toNat) % b = x.toNat by rw [Nat.mul_comm, Nat.mul_add_mod, Nat.mod_eq_of_lt hx]]
   rw [ih (fun y hy => hl y (by simp [hy]))]
   simp
theorem valB_lt {b : Nat} (l : List UInt8) (hl : ∀ x ∈ l, x.toNat < b) : valB b l < b ^ l.length := by
 induction l using snoc_ind with
 | h0 => simp [valB]
 | h1 l x ih =>
   have hx := hl x si_
   have h := ih (fun y hy => hl y (by simp [hy]))
   rw [valB_snoc, List.length_append, List.length_singleton, Nat.pow_succ]
   have : (valB b l + 1) * b ≤ b ^ l.length * b := Nat.mul_le_mul_right _ h
   rw [Nat.add_mul] at this
   omega
def bitsP (f t : Nat) (pad : Bool) (l : List UInt8) : Option (List UInt8) :=
 if l.any (fun x => decide (2 ^ f ≤ x.toNat)) = true then none
 else if pad = true then (if f * l.length % t = 0 then some (digB (2 ^ t) (f * l.length / t) (valB (2 ^ f) l)) else some (digB (2 ^ t) (f * l.length / t + 1) (valB (2 ^ f) l * 2 ^ (t - f * l.length % t))))
 else if f ≤ f * l.length % t ∨ valB (2 ^ f) l % 2 ^ (f * l.length % t) ≠ 0 then none
 else some (digB (2 ^ t) (f * l.length / t) (valB (2 ^ f) l / 2 ^ (f * l.length % t)))
theorem any_of {l : List UInt8} {n : Nat} (h : ∀ x ∈ l, x.toNat < n) : l.any (fun x => decide (n ≤ x.toNat)) = false := by
 rw [Bool.eq_false_iff]
 intro h2
 simp only [List.any_eq_true, decide_eq_true_eq] at h2
 obtain ⟨x, hx, h3⟩ := h2
 have := h x hx
 omega
theorem of_any {l : List UInt8} {n : Nat} (h : ¬ l.any (fun x => decide (n ≤ x.toNat)) = true) : ∀ x ∈ l, x.toNat < n := by
 intro x hx
 simp only [List.any_eq_true, decide_eq_true_eq, not_exists, not_and] at h
 have := h x hx
 omega
def textW (s : List UInt8) : List UInt8 := (bitsP 8 5 true s).getD []
theorem u8_all (l : List UInt8) : ∀ x ∈ l, x.toNat < 2 ^ 8 := fun x _ => x.toNat_lt
theorem bits85 (s : List UInt8) : bitsP 8 5 true s = some (textW s) := by
 unfold textW bitsP
 rw [if_neg (by rw [any_of (u8_all s)]; simp), if_pos rfl]
 split <;> rfl
theorem pow_len (k : Nat) : (2 ^ 8) ^ k = 2 ^ (8 * k) := by rw [Nat.pow_mul]
theorem textW_back (s : List UInt8) : bitsP 5 8 false (textW s) = some s ∧ (textW s).length = (8 * s.length + 4) / 5 ∧ ∀ x ∈ textW s, x.toNat < 32 := by
 have h85 := bits85 s
 unfold bitsP at h85
 rw [if_neg (by rw [any_of (u8_all s)]; simp), if_pos rfl] at h85
 have hV := valB_lt s (u8_all s)
 rw [pow_len] at hV
 have hD := digB_valB (by decide : 0 < 2 ^ 8) s (u8_all s)
 by_cases h : 8 * s.length % 5 = 0
 · rw [if_pos h] at h85
   injection h85 with h85
   have hm : 5 * (8 * s.length / 5) = 8 * s.length := by omega
   have hl : (textW s).length = 8 * s.length / 5 := by rw [← h85, digB_len]
   have hlt : ∀ x ∈ textW s, x.toNat < 2 ^ 5 := by rw [← h85]; exact digB_lt de_ de_ _ _
   have hv : valB (2 ^ 5) (textW s) = valB (2 ^ 8) s := by
    rw [← h85, valB_digB de_ de_]
    rw [← Nat.pow_mul, hm]
    exact hV
   refine ⟨?_, by omega, hlt⟩
   unfold bitsP
   rw [if_neg (by rw [any_of hlt]; simp), if_neg si_, hl, hm, hv]
   rw [show 8 * s.length % 8 = 0 by omega, show 8 * s.length / 8 = s.length by omega]
   rw [if_neg (by simp [Nat.mod_one]), Nat.pow_zero, Nat.div_one, hD]
 · rw [if_neg h] at h85
   injection h85 with h85
   have hl : (textW s).length = 8 * s.length / 5 + 1 := by rw [← h85, digB_len]
   have hm : 5 * (8 * s.length / 5 + 1) = 8 * s.length + (5 - 8 * s.length % 5) := by omega
   have hlt : ∀ x ∈ textW s, x.toNat < 2 ^ 5 := by rw [← h85]; exact digB_lt de_ de_ _ _
   have hv : valB (2 ^ 5) (textW s) = valB (2 ^ 8) s * 2 ^ (5 - 8 * s.length % 5) := by
    rw [← h85, valB_digB de_ de_]
    rw [← Nat.pow_mul, hm, Nat.pow_add]
    exact Nat.mul_lt_mul_of_pos_right hV (Nat.two_pow_pos _)
   refine ⟨?_, by omega, hlt⟩
   unfold bitsP
   rw [if_neg (by rw [any_of hlt]; simp), if_neg si_, hl, hm, hv]
   rw [show (8 * s.length + (5 - 8 * s.length % 5)) % 8 = 5 - 8 * s.length % 5 by omega, show (8 * s.length + (5 - 8 * s.length % 5)) / 8 = s.length by omega]
   rw [if_neg, Nat.mul_div_cancel _ (Nat.two_pow_pos _), hD]
   rw [Nat.mul_mod_left]
   omega
theorem bits58_back {w b : List UInt8} (h : bitsP 5 8 false w = some b) : textW b = w ∧ b.length = 5 * w.length / 8 := by
 unfold bitsP at h
 split at h
 · cases h
 rename_i h1
 rw [if_neg si_] at h
 split at h
 · cases h
 rename_i h2
 injection h with h
 have hlt := of_any h1
 rw [not_or, Classical.not_not] at h2
 obtain ⟨h2, h3⟩ := h2
 have hW := valB_lt w hlt
 rw [← Nat.pow_mul] at hW
 have hbl : b.length = 5 * w.length / 8 := by rw [← h, digB_len]
 have hV : valB (2 ^ 8) b = valB (2 ^ 5) w / 2 ^ (5 * w.length % 8) := by
  rw [← h, valB_digB de_ de_]
  rw [← Nat.pow_mul]
  refine Nat.div_lt_of_lt_mul ?_
  rw [← Nat.pow_add]
  rwa [show 5 * w.length % 8 + 8 * (5 * w.length / 8) = 5 * w.length by omega]
 have hdv : valB (2 ^ 5) w / 2 ^ (5 * w.length % 8) * 2 ^ (5 * w.length % 8) = valB (2 ^ 5) w := Nat.div_mul_cancel (Nat.dvd_of_mod_eq_zero h3)
 have hD := digB_valB (by decide : 0 < 2 ^ 5) w hlt
 refine ⟨?_, hbl⟩
 have h85 := bits85 b
 unfold bitsP at h85
 rw [if_neg (by rw [any_of (u8_all b)]; simp), if_pos rfl, hbl, hV] at h85
 by_cases h0 : 5 * w.length % 8 = 0
 · rw [if_pos om_, h0, Nat.pow_zero, Nat.div_one, show 8 * (5 * w.length / 8) / 5 = w.length by omega, hD] at h85
   injection h85 with h85
   exact h85.symm
 · rw [if_neg om_, show 8 * (5 * w.length / 8) / 5 + 1 = w.length by omega, show 5 - 8 * (5 * w.length / 8) % 5 = 5 * w.length % 8 by omega, hdv, hD] at h85
   injection h85 with h85
   exact h85.symm
end Go.Proofs.YtembdkodajichaaGreatDoor
