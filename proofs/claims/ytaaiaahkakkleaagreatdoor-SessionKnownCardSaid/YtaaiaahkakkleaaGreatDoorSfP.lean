/- Who has heard all that two sessions say: what is fine to be known. No program stands in this text. -/
import Derived.Test.YtaaiaahkakkleaaGreatDoorSesV
import Derived.Test.YtaaiaahkakkleaaGreatDoorDedL
import Derived.Test.YtaaiaahkakkleaaGreatDoorDedR
import Derived.Test.YtaaiaahkakkleaaGreatDoorDedU
set_option linter.unusedSimpArgs false
set_option linter.unusedVariables false
namespace Go.Proofs.YtaaiaahkakkleaaGreatDoor
open Go.RowKit
def fnF (N D : List (List UInt8)) : Nat → List UInt8 → Bool
 | 0, _ => false
 | n + 1, t => match rt t with
   | none => false
   | some x =>
     if x.op.toNat = 110 then !decide (t ∈ N)
     else if x.op.toNat = 80 ∨ x.op.toNat = 87 ∨ x.op.toNat = 76 ∨ x.op.toNat = 83 then true
     else if x.op.toNat = 88 then fnF N D n (x.kids.getD 0 []) || fnF N D n (x.kids.getD 1 [])
     else if x.op.toNat = 66 then (if fnF N D n (x.kids.getD 0 []) = true then fnF N D n (x.kids.getD 1 []) else decide (t ∈ D))
     else x.kids.all (fnF N D n)
def fine (N D : List (List UInt8)) (t : List UInt8) : Bool := fnF N D t.length t
theorem all_fuel {ks : List (List UInt8)} {p q : List UInt8 → Bool} (h : ∀ k ∈ ks, p k = q k) : ks.all p = ks.all q := by
 induction ks with
 | nil => rfl
 | cons a r ih => rw [List.all_cons, List.all_cons, h a si_, ih (fun y hy => h y (by simp [hy]))]
theorem fnF_fuel (N D : List (List UInt8)) : ∀ (n m : Nat) (t : List UInt8), t.length ≤ n → t.length ≤ m → 1 ≤ t.length → fnF N D n t = fnF N D m t
 | 0, _, t, h, _, h1 => by omega
 | _ + 1, 0, t, _, h, h1 => by omega
 | n + 1, m + 1, t, hn, hm, h1 => by
   rw [fnF, fnF]
   cases hx : rt t with
   | none => rfl
   | some x =>
     have hk : ∀ k ∈ x.kids, fnF N D n k = fnF N D m k := fun k hk => fnF_fuel N D n m k (by have := (rt_kids hx k hk).2; omega) (by have := (rt_kids hx k hk).2; omega) (right_len (rt_kids hx k hk).1).1
     simp only
     by_cases h88 : x.op.toNat = 88
     · obtain ⟨a, b, e, _⟩ := rt_two_kids hx (by rw [show x.op = 88 from UInt8.toNat_inj.1 h88]; rfl)
       rw [e] at hk ⊢
       simp only [List.getD_cons_zero, List.getD_cons_succ]
       rw [hk a si_, hk b si_, all_fuel hk]
     by_cases h66 : x.op.toNat = 66
     · obtain ⟨a, b, e, _⟩ := rt_two_kids hx (by rw [show x.op = 66 from UInt8.toNat_inj.1 h66]; rfl)
       rw [e] at hk ⊢
       simp only [List.getD_cons_zero, List.getD_cons_succ]
       rw [hk a si_, hk b si_, all_fuel hk]
     rw [if_neg h88, if_neg h66, if_neg h88, if_neg h66, all_fuel hk]
theorem fine_eq (N D : List (List UInt8)) {t : List UInt8} {x : Sh} (h : rt t = some x) : fine N D t =
  (if x.op.toNat = 110 then !decide (t ∈ N)
    else if x.op.toNat = 80 ∨ x.op.toNat = 87 ∨ x.op.toNat = 76 ∨ x.op.toNat = 83 then true
    else if x.op.toNat = 88 then fine N D (x.kids.getD 0 []) || fine N D (x.kids.getD 1 [])
    else if x.op.toNat = 66 then (if fine N D (x.kids.getD 0 []) = true then fine N D (x.kids.getD 1 []) else decide (t ∈ D))
    else x.kids.all (fine N D)) := by
 have hl := (right_len (rt_right h)).1
 have hk : ∀ k ∈ x.kids, fnF N D t.length k = fine N D k := fun k hk => fnF_fuel N D t.length k.length k (by have := (rt_kids h k hk).2; omega) (Nat.le_refl _) (right_len (rt_kids h k hk).1).1
 conv => lhs; unfold fine
 rw [fnF_fuel N D t.length (t.length + 1) t (Nat.le_refl _) om_ hl, fnF, h]
 simp only
 by_cases h88 : x.op.toNat = 88
 · obtain ⟨a, b, e, _⟩ := rt_two_kids h (by rw [show x.op = 88 from UInt8.toNat_inj.1 h88]; rfl)
   rw [e] at hk ⊢
   simp only [List.getD_cons_zero, List.getD_cons_succ]
   rw [hk a si_, hk b si_, all_fuel hk]
 by_cases h66 : x.op.toNat = 66
 · obtain ⟨a, b, e, _⟩ := rt_two_kids h (by rw [show x.op = 66 from UInt8.toNat_inj.1 h66]; rfl)
   rw [e] at hk ⊢
   simp only [List.getD_cons_zero, List.getD_cons_succ]
   rw [hk a si_, hk b si_, all_fuel hk]
 rw [if_neg h88, if_neg h66, if_neg h88, if_neg h66, all_fuel hk]
theorem agr_left {K : List UInt8 → Bool} {k j : List UInt8} (h : agrB K k j = true) : K k = true := by
 unfold agrB at h
 simp only [Bool.and_eq_true] at h
 exact h.1.2
theorem kn_fine {H S : List UInt8 → Bool} {N D : List (List UInt8)} (hL : Least H S) (hH : ∀ t, H t = true → right t = true ∧ fine N D t = true) : ∀ t, right t = true → kn S t = true → fine N D t = true := by
 refine kn_ind hL (fine N D) hH ?_ ?_ ?_
 · intro t htr hm
   obtain ⟨x, hx⟩ := right_some htr
   unfold makesB at hm
   rw [hx] at hm
   simp only at hm
   rw [fine_eq N D hx]
   by_cases h1 : x.op.toNat = 110
   · rw [if_pos h1] at hm; cases hm
   rw [if_neg h1] at hm ⊢
   by_cases h2 : x.op.toNat = 88
   · rw [if_pos h2] at hm
     rw [if_neg om_, if_pos h2]
     rw [Bool.or_eq_true] at hm ⊢
     rcases hm with hm | hm
     · exact .inl (agr_left hm)
     · exact .inr (agr_left hm)
   rw [if_neg h2] at hm
   by_cases h3 : x.op.toNat = 80 ∨ x.op.toNat = 87 ∨ x.op.toNat = 76
   · rw [if_pos om_]
   rw [if_neg h3] at hm
   by_cases h4 : x.op.toNat = 83
   · rw [if_pos om_]
   rw [if_neg om_, if_neg h2]
   by_cases h5 : x.op.toNat = 66
   · rw [if_pos h5]
     obtain ⟨a, b, e, _⟩ := rt_two_kids hx (by rw [show x.op = 66 from UInt8.toNat_inj.1 h5]; rfl)
     rw [e] at hm ⊢
     simp only [List.all_cons, List.all_nil, Bool.and_true, Bool.and_eq_true] at hm
     simp only [List.getD_cons_zero, List.getD_cons_succ]
     rw [if_pos hm.1]
     exact hm.2
   · rw [if_neg h5]
     exact hm
 · intro t x h hx ho k hk
   rw [fine_eq N D hx, if_neg om_, if_neg om_, if_neg om_, if_neg om_, List.all_eq_true] at h
   exact h k hk
 · intro t x h hx ho hk
   rw [fine_eq N D hx, if_neg om_, if_neg om_, if_neg om_, if_pos ho, if_pos hk] at h
   exact h
theorem free_fine {N D : List (List UInt8)} (hN : ∀ nm ∈ N, head nm = 110) : ∀ (n : Nat) (t : List UInt8), t.length ≤ n → right t = true → (∀ nm ∈ N, stands nm t = false) → fine N D t = true := by
 intro n
 induction n with
 | zero => intro t hl hr; have := (right_len hr).1; omega
 | succ n ih =>
   intro t hl hr hs
   obtain ⟨x, hx⟩ := right_some hr
   have hk : ∀ k ∈ x.kids, x.op.toNat ≠ 110 → fine N D k = true := fun k hk ho => by
    have h2 := rt_kids hx k hk
    refine ih k om_ h2.1 (fun nm hnm => ?_)
    have := hs nm hnm
    rw [stands_kids (hN nm hnm) hx ho, List.any_eq_false] at this
    simpa using this k hk
   rw [fine_eq N D hx]
   by_cases h1 : x.op.toNat = 110
   · rw [if_pos h1]
     simp only [Bool.not_eq_true', decide_eq_false_iff_not]
     intro hm
     have := hs t hm
     rw [stands_eq t hx] at this
     simp at this
   rw [if_neg h1]
   by_cases h3 : x.op.toNat = 80 ∨ x.op.toNat = 87 ∨ x.op.toNat = 76 ∨ x.op.toNat = 83
   · rw [if_pos h3]
   rw [if_neg h3]
   by_cases h2 : x.op.toNat = 88
   · rw [if_pos h2]
     obtain ⟨a, b, e, _⟩ := rt_two_kids hx (by rw [show x.op = 88 from UInt8.toNat_inj.1 h2]; rfl)
     rw [e] at hk ⊢
     simp only [List.getD_cons_zero, List.getD_cons_succ]
     rw [hk a si_ h1]; rfl
   rw [if_neg h2]
   by_cases h5 : x.op.toNat = 66
   · rw [if_pos h5]
     obtain ⟨a, b, e, _⟩ := rt_two_kids hx (by rw [show x.op = 66 from UInt8.toNat_inj.1 h5]; rfl)
     rw [e] at hk ⊢
     simp only [List.getD_cons_zero, List.getD_cons_succ]
     rw [if_pos (hk a si_ h1)]
     exact hk b si_ h1
   · rw [if_neg h5, List.all_eq_true]
     exact fun k hkk => hk k hkk h1
theorem fine_name {N D : List (List UInt8)} {t : List UInt8} (hr : right t = true) (hh : head t = 110) (hm : t ∈ N) : fine N D t = false := by
 obtain ⟨x, hx⟩ := right_some hr
 rw [fine_eq N D hx, if_pos (by rw [head_op hx, hh]; rfl)]
 simp [hm]
theorem fine_two {N D : List (List UInt8)} {c : UInt8} {a b : List UInt8} (hc : arity c = some 2) (hr : right (c :: (a ++ b)) = true) (ra : right a = true) : ∃ x, rt (c :: (a ++ b)) = some x ∧ x.op = c ∧ x.kids = [a, b] := by
 obtain ⟨x, hx⟩ := right_some hr
 obtain ⟨h1, h2⟩ := rt_two_is hx hc ra
 exact ⟨x, hx, h1, h2⟩
theorem fine_agree {N D : List (List UInt8)} {a b : List UInt8} (hr : right (agreeL a b) = true) (ra : right a = true) (rb : right b = true) (ha : fine N D a = false) (hb : fine N D b = false) : fine N D (agreeL a b) = false := by
 have key : ∀ u v : List UInt8, right (88 :: (u ++ v)) = true → right u = true → fine N D u = false → fine N D v = false → fine N D (88 :: (u ++ v)) = false := fun u v hr ru hu hv => by
  obtain ⟨x, hx, ho, hk⟩ := fine_two (N := N) (D := D) (c := 88) (by rfl) hr ru
  have ho : x.op.toNat = 88 := by rw [ho]; rfl
  rw [fine_eq N D hx, if_neg om_, if_neg om_, if_pos ho, hk]
  simp [hu, hv]
 unfold agreeL at hr ⊢
 split
 · rename_i h
   rw [if_pos h] at hr
   exact key b a hr rb hb ha
 · rename_i h
   rw [if_neg h] at hr
   exact key a b hr ra ha hb
theorem fine_child {N D : List (List UInt8)} {a b : List UInt8} (hr : right (68 :: (a ++ b)) = true) (ra : right a = true) (ha : fine N D a = false) : fine N D (68 :: (a ++ b)) = false := by
 obtain ⟨x, hx, ho, hk⟩ := fine_two (N := N) (D := D) (c := 68) (by rfl) hr ra
 have ho : x.op.toNat = 68 := by rw [ho]; rfl
 rw [fine_eq N D hx, if_neg om_, if_neg om_, if_neg om_, if_neg om_, hk]
 simp [ha]
theorem fine_box {N D : List (List UInt8)} {a b : List UInt8} (hr : right (66 :: (a ++ b)) = true) (ra : right a = true) (ha : fine N D a = false) : fine N D (66 :: (a ++ b)) = decide (66 :: (a ++ b) ∈ D) := by
 obtain ⟨x, hx, ho, hk⟩ := fine_two (N := N) (D := D) (c := 66) (by rfl) hr ra
 have ho : x.op.toNat = 66 := by rw [ho]; rfl
 rw [fine_eq N D hx, if_neg om_, if_neg om_, if_neg om_, if_pos ho, hk]
 simp [ha]
theorem fine_pub {N D : List (List UInt8)} {a : List UInt8} (hr : right (80 :: a) = true) : fine N D (80 :: a) = true := by
 obtain ⟨x, hx⟩ := right_some hr
 have ho : x.op.toNat = 80 := by rw [head_op hx]; rfl
 rw [fine_eq N D hx, if_neg om_, if_pos om_]
theorem fine_hash {N D : List (List UInt8)} {d n m : Nat} {a b : List UInt8} (qa : Q d n a) (qb : Q d m b) (hd : d + 2 ≤ 64) (hl : n + m + 4 ≤ 16384) : fine N D (hashL a b) = (fine N D a && fine N D b) := by
 have qh := (hashM_at qa qb hd hl).2
 obtain ⟨x, hx⟩ := right_some (q_right qh om_ hl)
 have ho : x.op = 72 := by rw [head_op hx]; rfl
 have ho2 : x.op.toNat = 72 := by rw [ho]; rfl
 obtain ⟨u, hk, _, _⟩ := rt_one_kid hx (by rw [ho]; rfl)
 have ht := rt_text hx (n := 1) (by rw [ho]; rfl)
 rw [hk, ho] at ht
 simp only [cat, List.flatten_cons, List.flatten_nil, List.append_nil, hashL, List.cons.injEq, true_and] at ht
 rw [fine_eq N D hx, if_neg om_, if_neg om_, if_neg om_, if_neg om_, hk, ← ht]
 obtain ⟨y, hy, hyo, hyk⟩ := rt_tuple_at (d := d) (ls := [a, b]) si_ (by intro z hz; simp at hz; rcases hz with rfl | rfl; exact qa.1; exact qb.1) om_ (by have := (q_tup2 qa qb).2; omega)
 have hyo : y.op.toNat = 84 := by rw [hyo]; rfl
 simp only [List.all_cons, List.all_nil, Bool.and_true]
 rw [fine_eq N D hy, if_neg om_, if_neg om_, if_neg om_, if_neg om_, hyk]
 simp
theorem fine_act {N D : List (List UInt8)} {d n m : Nat} {p k : List UInt8} (hp : Q (d + 1) n (80 :: p)) (hk : Q d m k) (h1 : 1 ≤ d) (hd : d + 2 ≤ 64) (hl : n + m + 7 ≤ 16384) (hf : fine N D k = false) (hm : 66 :: (k ++ boxE) ∈ D) : fine N D (actL (80 :: p) k) = true := by
 have qb := q_two (c := 66) de_ (by rfl) hk (q_mono q_boxE h1 (Nat.le_refl _))
 obtain ⟨y, hy, hyo, hyk⟩ := rt_tuple_at (d := d + 1) (ls := [80 :: p, 66 :: (k ++ boxE)]) si_ (by intro z hz; simp at hz; rcases hz with rfl | rfl; exact hp.1; exact qb.1) om_ (by have := (q_tup2 hp qb).2; omega)
 have hyo : y.op.toNat = 84 := by rw [hyo]; rfl
 show fine N D (tupL [80 :: p, 66 :: (k ++ boxE)]) = true
 rw [fine_eq N D hy, if_neg om_, if_neg om_, if_neg om_, if_neg om_, hyk]
 simp only [List.all_cons, List.all_nil, Bool.and_true]
 rw [fine_pub (q_right hp om_ om_), fine_box (q_right qb om_ om_) (q_right hk om_ om_) hf, decide_eq_true hm]
 rfl
theorem make_is {key x fr : List UInt8} {c : Nat} (h : makeM key c x = (fr, 0)) : fr = 66 :: (key ++ tupL (frameL c x)) ∧ right fr = true ∧ right key = true ∧ right (tupL (frameL c x)) = true := by
 unfold makeM at h
 injection h with h1 h2
 have h3 : (tupleT (frameL c x)).2 = 0 := by
  unfold mkE at h2
  split at h2
  · rename_i h; exact h
  · rename_i h; exact absurd h2 h
 rw [h3] at h2
 simp only [mkE, if_true] at h2
 obtain ⟨g1, g2, g3, g4⟩ := two_right h2
 have h5 : (tupleT (frameL c x)).1 = tupL (frameL c x) := by
  unfold tupleT at h3 ⊢
  split at h3
  · simp at h3
  · rename_i hn
    rw [if_neg hn]
    split at h3
    · rename_i ha
      rw [if_pos ha]
      unfold made at h3 ⊢
      split at h3
      · rename_i hr; rw [if_pos hr]; rfl
      · simp at h3
    · simp at h3
 rw [h5] at g1 g2 g4 h1
 rw [← h1]
 exact ⟨g2, g1, g3, g4⟩
theorem dec_one {a b : Nat} (ha : a ≤ 9223372036854775807) (hb : b ≤ 9223372036854775807) (h : Lib.decDigits a = Lib.decDigits b) : a = b := by
 have h1 := num_dec 59 de_ a [] ha
 have h2 := num_dec 59 de_ b [] hb
 rw [h, h2] at h1
 exact (Prod.mk.inj (Option.some.inj h1)).1.symm
theorem tup_first {a b : List UInt8} {r q : List (List UInt8)} (h : tupL (a :: r) = tupL (b :: q)) (ra : right a = true) (rb : right b = true) (hn : (a :: r).length ≤ 32) (hm : (b :: q).length ≤ 32) : a = b := by
 have h1 := num_dec 58 de_ (a :: r).length (cat (a :: r)) om_
 have h2 := num_dec 58 de_ (b :: q).length (cat (b :: q)) om_
 have e : Lib.decDigits (a :: r).length ++ 58 :: cat (a :: r) = Lib.decDigits (b :: q).length ++ 58 :: cat (b :: q) := (List.cons.inj h).2
 rw [e, h2] at h1
 have hl : (b :: q).length = (a :: r).length := (Prod.mk.inj (Option.some.inj h1)).1
 rw [hl] at e
 have := (List.cons.inj (List.append_cancel_left e)).2
 simp only [cat, List.flatten_cons] at this
 exact (right_same ra rb this).1
theorem text_right (c : Nat) (h : c ≤ 1000) : right (textL (Lib.decDigits c)) = true := by
 have := dec_len20 c om_
 exact q_right (q_text (Lib.decDigits c) om_) om_ om_
theorem textL_one {a b : List UInt8} (ha : a.length ≤ 4096) (hb : b.length ≤ 4096) (h : textL a = textL b) : a = b := by
 obtain ⟨x, hx, _, h1⟩ := rt_text_at a ha
 obtain ⟨y, hy, _, h2⟩ := rt_text_at b hb
 rw [h, hy] at hx
 obtain rfl := Option.some.inj hx
 rw [← h1, h2]
theorem frame_len {key x fr : List UInt8} {c : Nat} (h : makeM key c x = (fr, 0)) : (frameL c x).length ≤ 32 := by
 unfold makeM at h
 injection h with h1 h2
 have h3 : (tupleT (frameL c x)).2 = 0 := by
  unfold mkE at h2
  split at h2
  · rename_i h; exact h
  · rename_i h; exact absurd h2 h
 unfold tupleT at h3
 split at h3
 · simp at h3
 · rename_i h; omega
theorem frame_one {k k' x x' fr : List UInt8} {c c' : Nat} (hc : c ≤ 1000) (hc' : c' ≤ 1000) (h : makeM k c x = (fr, 0)) (h' : makeM k' c' x' = (fr, 0)) : k = k' ∧ c = c' := by
 obtain ⟨e, _, rk, _⟩ := make_is h
 obtain ⟨e', _, rk', _⟩ := make_is h'
 rw [e] at e'
 obtain ⟨h1, h2⟩ := right_same rk rk' (List.cons.inj e').2
 refine ⟨h1, ?_⟩
 have h3 := tup_first h2 (text_right c hc) (text_right c' hc') (frame_len h) (frame_len h')
 have d1 := dec_len20 c om_
 have d2 := dec_len20 c' om_
 exact dec_one om_ om_ (textL_one om_ om_ h3)
def FrOk (d l : List UInt8) (ca cb : Nat) (F : List (List UInt8)) : Prop := ∀ t ∈ F, ∃ x c, (makeM d c x = (t, 0) ∧ c < ca) ∨ (makeM l c x = (t, 0) ∧ c < cb)
theorem frOk_nil (d l : List UInt8) (a b : Nat) : FrOk d l a b [] := fun t h => by simp at h
theorem frOk_a {d l : List UInt8} {a b : Nat} {F : List (List UInt8)} {x fr : List UInt8} (h : FrOk d l a b F) (hm : makeM d a x = (fr, 0)) : FrOk d l (a + 1) b (F ++ [fr]) := fun t ht => by
 rcases List.mem_append.1 ht with ht | ht
 · obtain ⟨y, c, h | h⟩ := h t ht
   · exact ⟨y, c, .inl ⟨h.1, by omega⟩⟩
   · exact ⟨y, c, .inr h⟩
 · rw [List.mem_singleton.1 ht]; exact ⟨x, a, .inl ⟨hm, by omega⟩⟩
theorem frOk_b {d l : List UInt8} {a b : Nat} {F : List (List UInt8)} {x fr : List UInt8} (h : FrOk d l a b F) (hm : makeM l b x = (fr, 0)) : FrOk d l a (b + 1) (F ++ [fr]) := fun t ht => by
 rcases List.mem_append.1 ht with ht | ht
 · obtain ⟨y, c, h | h⟩ := h t ht
   · exact ⟨y, c, .inl h⟩
   · exact ⟨y, c, .inr ⟨h.1, by omega⟩⟩
 · rw [List.mem_singleton.1 ht]; exact ⟨x, b, .inr ⟨hm, by omega⟩⟩
def dK (i e s f : Nat) : List UInt8 := 68 :: (k3E i e s f ++ textL lDial)
def lK (i e s f : Nat) : List UInt8 := 68 :: (k3E i e s f ++ textL lListen)
def a1K (e s : Nat) : List UInt8 := actL (80 :: nameL e) (k1E e s)
def a2K (e s f : Nat) : List UInt8 := actL (80 :: nameL f) (k2E e s f)
def a3K (i e s f : Nat) : List UInt8 := 66 :: (k2E e s f ++ a3E i e s f)
theorem sf_plain (i e s f : Nat) (hi : i ≤ 9223372036854775807) (he : e ≤ 9223372036854775807) (hs : s ≤ 9223372036854775807) (hf : f ≤ 9223372036854775807) {M F L : List (List UInt8)}
  (hM : ∀ t ∈ M, right t = true → ∀ nm ∈ [nameL i, nameL e, nameL s, nameL f], stands nm t = false) {ca cb : Nat} (hca : ca ≤ 100) (hcb : cb ≤ 100) (hF : FrOk (dK i e s f) (lK i e s f) ca cb F)
  (hL : ∀ t ∈ L, t ∈ [80 :: nameL i, 80 :: nameL e, 80 :: nameL s, 80 :: nameL f] ∨ t ∈ M ∨ t ∈ [a1K e s, a2K e s f, a3K i e s f] ∨ t ∈ F) {S : List UInt8 → Bool} (hS : Least (heardP L) S) :
  (∀ nm ∈ [nameL i, nameL e, nameL s, nameL f], kn S nm = false) ∧ (∀ x fr, makeM (dK i e s f) ca x = (fr, 0) → kn S fr = false) ∧ (∀ x fr, makeM (lK i e s f) cb x = (fr, 0) → kn S fr = false) := by
 obtain ⟨N, hN⟩ : ∃ N, [nameL i, nameL e, nameL s, nameL f] = N := ⟨_, rfl⟩
 obtain ⟨D, hD⟩ : ∃ D, [66 :: (k1E e s ++ boxE), 66 :: (k2E e s f ++ boxE), a3K i e s f] ++ F = D := ⟨_, rfl⟩
 have hNm : ∀ nm ∈ N, right nm = true ∧ head nm = 110 := by
  rw [← hN]
  simp only [List.forall_mem_cons]
  exact ⟨nameL_right hi, nameL_right he, nameL_right hs, nameL_right hf, by simp⟩
 have fi := fine_name (D := D) (N := N) (nameL_right hi).1 (nameL_right hi).2 (by rw [← hN]; simp)
 have fe := fine_name (D := D) (N := N) (nameL_right he).1 (nameL_right he).2 (by rw [← hN]; simp)
 have fs := fine_name (D := D) (N := N) (nameL_right hs).1 (nameL_right hs).2 (by rw [← hN]; simp)
 have ff := fine_name (D := D) (N := N) (nameL_right hf).1 (nameL_right hf).2 (by rw [← hN]; simp)
 have x1q := (agree_name e s he hs).2
 have x2q := (agree_name e f he hf).2
 have x3q := (agree_name i f hi hf).2
 have qs := q_pname s hs
 have q1 : Q _ _ (k1E e s) := (hashM_at x1q qs om_ om_).2
 have q2 : Q _ _ (k2E e s f) := (hashM_at q1 (q_mono x2q (show 2 ≤ 4 by omega) (Nat.le_refl _)) om_ om_).2
 have q3 : Q _ _ (k3E i e s f) := (hashM_at q2 (q_mono x3q (show 2 ≤ 6 by omega) (Nat.le_refl _)) om_ om_).2
 have g1 : fine N D (k1E e s) = false := by
  unfold k1E
  rw [fine_hash x1q qs om_ om_, fine_agree (q_right x1q om_ om_) (nameL_right he).1 (nameL_right hs).1 fe fs]; rfl
 have g2 : fine N D (k2E e s f) = false := by
  unfold k2E
  rw [fine_hash q1 (q_mono x2q (show 2 ≤ 4 by omega) (Nat.le_refl _)) om_ om_, g1]; rfl
 have g3 : fine N D (k3E i e s f) = false := by
  unfold k3E
  rw [fine_hash q2 (q_mono x3q (show 2 ≤ 6 by omega) (Nat.le_refl _)) om_ om_, g2]; rfl
 have rk3 := q_right q3 om_ om_
 have u1 := (childM_at (lb := lDial) q3 de_ om_ om_ om_).2
 have u2 := (childM_at (lb := lListen) q3 de_ om_ om_ om_).2
 have rd1 : right (dK i e s f) = true := q_right u1 om_ (by simp [lDial])
 have rl1 : right (lK i e s f) = true := q_right u2 om_ (by simp [lListen])
 have gd : fine N D (dK i e s f) = false := fine_child rd1 rk3 g3
 have gl : fine N D (lK i e s f) = false := fine_child rl1 rk3 g3
 have hdl : dK i e s f ≠ lK i e s f := fun h => by
  have := List.append_cancel_left (List.cons.inj h).2
  exact absurd this (by decide +kernel)
 have rk1 := q_right q1 om_ om_
 have rk2 := q_right q2 om_ om_
 obtain ⟨_, _, w3⟩ := hskC i e s f hi he hs hf
 have qb3 := q_two (c := 66) de_ (by rfl) (q_mono q2 (show 6 ≤ 10 by omega) (Nat.le_refl _)) w3
 have rb3 : right (a3K i e s f) = true := q_right qb3 om_ om_
 have hfr : ∀ t ∈ F, right t = true ∧ fine N D t = true := fun t ht => by
  obtain ⟨x, c, h | h⟩ := hF t ht
  · obtain ⟨e1, e2, e3, e4⟩ := make_is h.1
    refine ⟨e2, ?_⟩
    have hm : t ∈ D := by rw [← hD]; exact List.mem_append_right _ ht
    rw [e1] at e2 hm ⊢
    rw [fine_box e2 e3 gd, decide_eq_true hm]
  · obtain ⟨e1, e2, e3, e4⟩ := make_is h.1
    refine ⟨e2, ?_⟩
    have hm : t ∈ D := by rw [← hD]; exact List.mem_append_right _ ht
    rw [e1] at e2 hm ⊢
    rw [fine_box e2 e3 gl, decide_eq_true hm]
 have hH : ∀ t, heardP L t = true → right t = true ∧ fine N D t = true := fun t ht => by
  have hr := heardP_right L t ht
  refine ⟨hr, ?_⟩
  have hm : t ∈ L := by unfold heardP at ht; rw [Bool.and_eq_true, decide_eq_true_eq] at ht; exact ht.2
  rcases hL t hm with h | h | h | h
  · simp only [List.mem_cons, List.not_mem_nil, or_false] at h
    rcases h with rfl | rfl | rfl | rfl <;> exact fine_pub hr
  · exact free_fine (fun nm hnm => (hNm nm hnm).2) t.length t (Nat.le_refl _) hr (fun nm hnm => hM t h hr nm (by rw [hN]; exact hnm))
  · simp only [List.mem_cons, List.not_mem_nil, or_false] at h
    rcases h with rfl | rfl | rfl
    · exact fine_act (q_mono (q_pname e he) (show 2 ≤ 4 + 1 by omega) (Nat.le_refl _)) q1 om_ om_ om_ g1 (by rw [← hD]; simp)
    · exact fine_act (q_mono (q_pname f hf) (show 2 ≤ 6 + 1 by omega) (Nat.le_refl _)) q2 om_ om_ om_ g2 (by rw [← hD]; simp)
    · have := fine_box (D := D) rb3 rk2 g2
      show fine N D (66 :: (k2E e s f ++ a3E i e s f)) = true
      rw [this]
      exact decide_eq_true (by rw [← hD]; simp [a3K])
  · exact (hfr t h).2
 have hK := kn_fine hS hH
 have no : ∀ t, right t = true → fine N D t = false → kn S t = false := fun t hr h => by
  cases hq : kn S t with
  | false => rfl
  | true => rw [hK t hr hq] at h; cases h
 have h68 : ∀ x c key, key = dK i e s f ∨ key = lK i e s f → ∀ fr, makeM key c x = (fr, 0) → c ≤ 100 → (key = dK i e s f → ca ≤ c) → (key = lK i e s f → cb ≤ c) → kn S fr = false := fun x c key hkey fr hm hc h1 h2 => by
  obtain ⟨e1, e2, e3, e4⟩ := make_is hm
  have gk : fine N D key = false := by rcases hkey with rfl | rfl; exact gd; exact gl
  have hh : head key = 68 := by rcases hkey with rfl | rfl <;> rfl
  refine no fr e2 ?_
  have e5 := e2
  rw [e1] at e5 ⊢
  rw [fine_box e5 e3 gk]
  refine decide_eq_false fun hmem => ?_
  rw [← e1, ← hD, List.mem_append] at hmem
  have hne : ∀ k : List UInt8, right k = true → ∀ r, fr = 66 :: (k ++ r) → head k = 68 := fun k rk r hr => by
   rw [e1] at hr
   have := (right_same e3 rk (List.cons.inj hr).2).1
   rw [← this]; exact hh
  rcases hmem with hmem | hmem
  · simp only [List.mem_cons, List.not_mem_nil, or_false] at hmem
    rcases hmem with h | h | h
    · exact absurd (hne _ rk1 _ h) (by show (72 : UInt8) ≠ 68; decide)
    · exact absurd (hne _ rk2 _ h) (by show (72 : UInt8) ≠ 68; decide)
    · exact absurd (hne _ rk2 _ h) (by show (72 : UInt8) ≠ 68; decide)
  · obtain ⟨y, c', h | h⟩ := hF fr hmem
    · obtain ⟨z1, z2⟩ := frame_one om_ om_ hm h.1
      have := h1 z1
      omega
    · obtain ⟨z1, z2⟩ := frame_one om_ om_ hm h.1
      have := h2 z1
      omega
 refine ⟨fun nm hnm => ?_, fun x fr hm => h68 x ca _ (.inl rfl) fr hm hca (fun _ => Nat.le_refl _) (fun h => absurd h hdl), fun x fr hm => h68 x cb _ (.inr rfl) fr hm hcb (fun h => absurd h.symm hdl) (fun _ => Nat.le_refl _)⟩
 rw [hN] at hnm
 exact no nm (hNm nm hnm).1 (fine_name (hNm nm hnm).1 (hNm nm hnm).2 hnm)
def SfFact (i e s f : Nat) (d l a1 a2 a3 : List UInt8) : Prop := ∀ (M F L : List (List UInt8)) (ca cb : Nat) (S : List UInt8 → Bool),
 (∀ t ∈ M, right t = true → ∀ nm ∈ [nameL i, nameL e, nameL s, nameL f], stands nm t = false) → ca ≤ 100 → cb ≤ 100 → FrOk d l ca cb F →
 (∀ t ∈ L, t ∈ [80 :: nameL i, 80 :: nameL e, 80 :: nameL s, 80 :: nameL f] ∨ t ∈ M ∨ t ∈ [a1, a2, a3] ∨ t ∈ F) → Least (heardP L) S →
 (∀ nm ∈ [nameL i, nameL e, nameL s, nameL f], kn S nm = false) ∧ (∀ x fr, makeM d ca x = (fr, 0) → kn S fr = false) ∧ (∀ x fr, makeM l cb x = (fr, 0) → kn S fr = false)
theorem sf_all (i e s f : Nat) (hi : i ≤ 9223372036854775807) (he : e ≤ 9223372036854775807) (hs : s ≤ 9223372036854775807) (hf : f ≤ 9223372036854775807) :
  ∃ k1 k2 a1 a2 a3 d l, Hsk i e s f k1 k2 a1 a2 a3 d l ∧ SfFact i e s f d l a1 a2 a3 :=
 ⟨_, _, _, _, _, _, _, (hskC i e s f hi he hs hf).1, fun M F L ca cb S hM hca hcb hF hL hS => sf_plain i e s f hi he hs hf hM hca hcb hF hL hS⟩
theorem readM_other {key x fr : List UInt8} {c c' : Nat} (hc : c ≤ 1000) (hc' : c' ≤ 1000) (h : makeM key c x = (fr, 0)) (hn : c ≠ c') : readM key c' fr = none := by
 unfold readM
 split
 · rfl
 · split
   · split
     · rfl
     · rename_i y hy
       split
       · rfl
       · rename_i hq
         exfalso
         apply hn
         have h1 : (makeM key c' y).2 = 0 := Classical.byContradiction fun h => hq (.inl h)
         have h2 : (makeM key c' y).1 = fr := Classical.byContradiction fun h => hq (.inr h)
         have h3 : makeM key c' y = (fr, 0) := by rw [← h2, ← h1]
         exact (frame_one hc hc' h h3).2
   · rfl
end Go.Proofs.YtaaiaahkakkleaaGreatDoor
