/- Public keys of terms; parts of right terms are right. -/
import Derived.Test.YtchbhainmalbbaaDoorSpecB
namespace Go.Proofs.YtchbhainmalbbaaDoor

/-- What was read hangs only on the bytes that were read. -/
theorem numGo_app (e : UInt8) (m : List UInt8) : ∀ (l : List UInt8) (v k n c : Nat), numGo e l v k = some (n, c) → numGo e (l ++ m) v k = some (n, c)
  | [], v, k, n, c, h => by simp [numGo] at h
  | x :: r, v, k, n, c, h => by
    simp only [numGo, List.cons_append] at h ⊢
    split at h
    · rw [if_pos (by assumption)]; exact h
    · rw [if_neg (by assumption)]
      split at h
      · simp at h
      · rw [if_neg (by assumption)]
        split at h
        · simp at h
        · rw [if_neg (by assumption)]
          exact numGo_app e m r _ _ n c h
theorem num_app {e : UInt8} {l : List UInt8} {n c : Nat} (h : num e l = some (n, c)) (m : List UInt8) : num e (l ++ m) = some (n, c) := numGo_app e m l 0 0 n c h

theorem numGo_cut (e : UInt8) : ∀ (l : List UInt8) (v k n c : Nat), numGo e l v k = some (n, c) → ∀ j, c ≤ k + j → numGo e (l.take j) v k = some (n, c)
  | [], v, k, n, c, h => by simp [numGo] at h
  | x :: r, v, k, n, c, h => fun j hj => by
    have hb := numGo_bound' e (x :: r) v k n c h
    cases j with
    | zero => omega
    | succ j =>
      simp only [numGo, List.take_succ_cons] at h ⊢
      split at h
      · rw [if_pos (by assumption)]; exact h
      · rw [if_neg (by assumption)]
        split at h
        · simp at h
        · rw [if_neg (by assumption)]
          split at h
          · simp at h
          · rw [if_neg (by assumption)]
            exact numGo_cut e r _ _ n c h j (by omega)
where
  numGo_bound' (e : UInt8) : ∀ (l : List UInt8) (v k n c : Nat), numGo e l v k = some (n, c) → k + 1 ≤ c
    | [], v, k, n, c, h => by simp [numGo] at h
    | x :: r, v, k, n, c, h => by
      simp only [numGo] at h
      split at h
      · simp at h; omega
      · split at h
        · simp at h
        · split at h
          · simp at h
          · have := numGo_bound' e r _ _ n c h
            omega
theorem num_cut {e : UInt8} {l : List UInt8} {n c : Nat} (h : num e l = some (n, c)) {j : Nat} (hj : c ≤ j) : num e (l.take j) = some (n, c) :=
  numGo_cut e l 0 0 n c h j (by omega)

theorem kidsBy_cut {f : List UInt8 → Option Sh} {d : Nat} (hf : ∀ l x, f l = some x → ShOk d l x) (hc : ∀ l x j, f l = some x → x.len ≤ j → f (l.take j) = some x) :
    ∀ (m : Nat) (l : List UInt8) (ks : List (List UInt8)) (dp len j : Nat), kidsBy f m l = some (ks, dp, len) → len ≤ j → kidsBy f m (l.take j) = some (ks, dp, len)
  | 0, l, ks, dp, len, j, h, _ => by simpa [kidsBy] using h
  | m + 1, l, ks, dp, len, j, h, hj => by
    simp only [kidsBy] at h ⊢
    split at h
    · simp at h
    · rename_i x hx
      split at h
      · simp at h
      · rename_i ks' dp' len' hk
        simp only [Option.some.injEq, Prod.mk.injEq] at h
        obtain ⟨rfl, rfl, rfl⟩ := h
        rw [hc l x j hx (by omega)]
        simp only
        rw [List.drop_take, kidsBy_cut hf hc m (l.drop x.len) ks' dp' len' (j - x.len) hk (by omega)]
        simp only
        rw [List.take_take, Nat.min_eq_left (by omega)]

theorem cnt_cut {c : UInt8} {r : List UInt8} {m k j : Nat} (h : cnt c r = some (m, k)) (hj : k ≤ j) : cnt c (r.take j) = some (m, k) := by
  simp only [cnt] at h ⊢
  split at h
  · rw [if_pos (by assumption)]
    cases hn : num 58 r with
    | none => simp [hn] at h
    | some y =>
      obtain ⟨n, k'⟩ := y
      simp only [hn] at h
      split at h
      · simp at h
      · simp only [Option.some.injEq, Prod.mk.injEq] at h
        obtain ⟨rfl, rfl⟩ := h
        rw [num_cut hn hj]
        simp [*]
  · rw [if_neg (by assumption)]; exact h

theorem rd_cut : ∀ (d : Nat) (l : List UInt8) (x : Sh) (j : Nat), rd d l = some x → x.len ≤ j → rd d (l.take j) = some x
  | 0, _, _, _, h, _ => by simp [rd] at h
  | _ + 1, [], _, _, h, _ => by simp [rd] at h
  | d + 1, c :: r, x, j, h, hj => by
    have hok := rd_ok _ _ _ h
    unfold ShOk at hok
    cases j with
    | zero => omega
    | succ j =>
      simp only [rd, List.take_succ_cons] at h ⊢
      split at h
      · rw [if_pos (by assumption)]
        cases hn : num 59 r with
        | none => simp [hn] at h
        | some y =>
          obtain ⟨n, k⟩ := y
          simp only [hn, Option.map_some, Option.some.injEq] at h
          subst h
          simp only at hj
          rw [num_cut hn (by omega)]; rfl
      · rw [if_neg (by assumption)]
        split at h
        · rw [if_pos (by assumption)]
          split at h
          · simp at h
          · rename_i n k hn
            have := num_bound hn
            split at h
            · simp at h
            · simp only [Option.some.injEq] at h
              subst h
              simp only at hj
              rw [num_cut hn (by omega)]
              simp only
              rw [if_neg (by rw [List.length_take]; omega), List.drop_take, List.take_take, Nat.min_eq_left (by omega)]
        · rw [if_neg (by assumption)]
          split at h
          · simp at h
          · rename_i m k hc
            split at h
            · simp at h
            · rename_i ks dp len hk
              split at h
              · rename_i hfit
                simp only [Option.some.injEq] at h
                subst h
                simp only at hj
                rw [cnt_cut hc (by omega)]
                simp only
                rw [List.drop_take, kidsBy_cut (rd_ok d) (rd_cut d) m _ ks dp len (j - k) hk (by omega)]
                simp [hfit]
              · simp at h

theorem rd_mono : ∀ (d d' : Nat) (l : List UInt8) (x : Sh), d ≤ d' → rd d l = some x → rd d' l = some x
  | 0, _, _, _, _, h => by simp [rd] at h
  | _ + 1, 0, _, _, hd, _ => by omega
  | _ + 1, _ + 1, [], _, _, h => by simp [rd] at h
  | d + 1, d' + 1, c :: r, x, hd, h => by
    simp only [rd] at h ⊢
    split at h
    · rw [if_pos (by assumption)]; exact h
    · rw [if_neg (by assumption)]
      split at h
      · rw [if_pos (by assumption)]; exact h
      · rw [if_neg (by assumption)]
        split at h
        · simp at h
        · rename_i m k hc
          split at h
          · simp at h
          · rename_i ks dp len hk
            have : kidsBy (rd d') m (r.drop k) = some (ks, dp, len) := kidsBy_mono (fun l x => rd_mono d d' l x (by omega)) m _ _ _ _ hk
            rw [this]; exact h
where
  kidsBy_mono {f g : List UInt8 → Option Sh} (hfg : ∀ l x, f l = some x → g l = some x) : ∀ (m : Nat) (l : List UInt8) (ks : List (List UInt8)) (dp len : Nat),
      kidsBy f m l = some (ks, dp, len) → kidsBy g m l = some (ks, dp, len)
    | 0, _, _, _, _, h => by simpa [kidsBy] using h
    | m + 1, l, ks, dp, len, h => by
      simp only [kidsBy] at h ⊢
      split at h
      · simp at h
      · rename_i x hx
        split at h
        · simp at h
        · rename_i ks' dp' len' hk
          rw [hfg _ _ hx]
          simp only
          rw [kidsBy_mono hfg m _ _ _ _ hk]
          exact h

theorem kidsBy_each {f : List UInt8 → Option Sh} {d : Nat} (hf : ∀ l x, f l = some x → ShOk d l x) (hc : ∀ l x j, f l = some x → x.len ≤ j → f (l.take j) = some x) :
    ∀ (m : Nat) (l : List UInt8) (ks : List (List UInt8)) (dp len : Nat), kidsBy f m l = some (ks, dp, len) → ∀ k ∈ ks, ∃ x, f k = some x ∧ x.len = k.length ∧ x.deep ≤ dp
  | 0, l, ks, dp, len, h => by
    simp only [kidsBy, Option.some.injEq, Prod.mk.injEq] at h
    obtain ⟨rfl, _, _⟩ := h
    simp
  | m + 1, l, ks, dp, len, h => by
    simp only [kidsBy] at h
    split at h
    · simp at h
    · rename_i x hx
      split at h
      · simp at h
      · rename_i ks' dp' len' hk
        simp only [Option.some.injEq, Prod.mk.injEq] at h
        obtain ⟨rfl, rfl, rfl⟩ := h
        have hx1 := hf _ _ hx
        unfold ShOk at hx1
        intro k hk'
        rcases List.mem_cons.1 hk' with rfl | hk'
        · exact ⟨x, hc l x _ hx (Nat.le_refl _), by rw [List.length_take]; omega, by omega⟩
        · obtain ⟨y, h1, h2, h3⟩ := kidsBy_each hf hc m _ _ _ _ hk k hk'
          exact ⟨y, h1, h2, by omega⟩

/-- Each part of a right term is one. -/
theorem rt_kids {l : List UInt8} {x : Sh} (h : rt l = some x) : ∀ k ∈ x.kids, right k = true ∧ k.length < l.length := by
  unfold rt at h
  split at h
  · rename_i hl
    split at h
    · rename_i y hy
      split at h
      · rename_i hlen
        simp only [Option.some.injEq] at h
        subst h
        intro k hk
        cases l with
        | nil => simp [rd] at hy
        | cons c r =>
          have hp := rd_parts hy
          simp only [rd] at hy
          split at hy
          · cases hn : num 59 r with
            | none => simp [hn] at hy
            | some z => simp only [hn, Option.map_some, Option.some.injEq] at hy; subst hy; simp at hk
          · split at hy
            · split at hy
              · simp at hy
              · split at hy
                · simp at hy
                · simp only [Option.some.injEq] at hy; subst hy; simp at hk
            · split at hy
              · simp at hy
              · split at hy
                · simp at hy
                · rename_i m kk hc ks dp len hkb
                  split at hy
                  · simp only [Option.some.injEq] at hy
                    subst hy
                    simp only at hk hlen
                    obtain ⟨z, hz, hzl, hzd⟩ := kidsBy_each (rd_ok 63) (rd_cut 63) _ _ _ _ _ hkb k hk
                    have hb := kidsBy_ok (rd_ok 63) _ _ _ _ _ hkb
                    have hkl : k.length ≤ sumL ks := mem_sumL k ks hk
                    have hlt : k.length < (c :: r).length := by omega
                    refine ⟨?_, hlt⟩
                    unfold right rt
                    rw [if_pos (by omega), rd_mono 63 64 k z (by omega) hz]
                    simp [hzl]
                  · simp at hy
      · simp at h
    · simp at h
  · simp at h
where
  mem_sumL (k : List UInt8) : ∀ (ks : List (List UInt8)), k ∈ ks → k.length ≤ sumL ks
    | [], h => by simp at h
    | a :: ks, h => by
      simp only [sumL]
      rcases List.mem_cons.1 h with rfl | h
      · omega
      · have := mem_sumL k ks h; omega

/-! The public key of a term. -/
def keyF : Nat → List UInt8 → List UInt8
  | 0, x => 80 :: x
  | n + 1, x =>
    match rt x with
    | none => 80 :: x
    | some s =>
      if s.op.toNat = 86 then 87 :: (keyF n (s.kids.getD 0 []) ++ keyF n (s.kids.getD 1 []))
      else if s.op.toNat = 75 then 76 :: (keyF n (s.kids.getD 0 []) ++ s.kids.getD 1 [])
      else 80 :: x
def keyT (x : List UInt8) : List UInt8 := keyF x.length x

theorem rt_two {x : List UInt8} {s : Sh} (h : rt x = some s) (ho : s.op.toNat = 86 ∨ s.op.toNat = 75) : ∃ a b, s.kids = [a, b] ∧ a.length + b.length < x.length ∧ right a = true ∧ right b = true := by
  have hk := rt_kids h
  unfold rt at h
  split at h
  · split at h
    · rename_i y hy
      split at h
      · rename_i hlen
        simp only [Option.some.injEq] at h
        subst h
        cases x with
        | nil => simp [rd] at hy
        | cons c r =>
          simp only [rd, ← UInt8.toNat_inj, UInt8.reduceToNat] at hy
          split at hy
          · rename_i h0
            cases hn : num 59 r with
            | none => simp [hn] at hy
            | some z => simp only [hn, Option.map_some, Option.some.injEq] at hy; subst hy; simp only at ho; omega
          · split at hy
            · split at hy
              · simp at hy
              · split at hy
                · simp at hy
                · simp only [Option.some.injEq] at hy; subst hy; simp only at ho; omega
            · split at hy
              · simp at hy
              · rename_i m kk hc
                split at hy
                · simp at hy
                · rename_i ks dp len hkb
                  have hb := kidsBy_ok (rd_ok 63) _ _ _ _ _ hkb
                  split at hy
                  · simp only [Option.some.injEq] at hy
                    subst hy
                    simp only at ho hlen hk
                    simp only [cnt, arity, ← UInt8.toNat_inj, UInt8.reduceToNat] at hc
                    rw [if_neg (by omega), if_neg (by omega), if_pos (by omega)] at hc
                    simp only [Option.map_some, Option.some.injEq, Prod.mk.injEq] at hc
                    obtain ⟨rfl, rfl⟩ := hc
                    match ks, hb, hk, hlen with
                    | [a, b], hb, hk, hlen =>
                      refine ⟨a, b, rfl, ?_, (hk a (by simp)).1, (hk b (by simp)).1⟩
                      have := hb.2.1
                      simp only [sumL] at this
                      omega
                    | [], hb, _, _ => simp at hb
                    | [_], hb, _, _ => simp at hb
                    | _ :: _ :: _ :: _, hb, _, _ => simp at hb
                  · simp at hy
      · simp at h
    · simp at h
  · simp at h

theorem keyF_len : ∀ (n : Nat) (x : List UInt8), 1 ≤ x.length → (keyF n x).length ≤ 2 * x.length
  | 0, x, h => by simp [keyF]; omega
  | n + 1, x, h => by
    simp only [keyF]
    split
    · simp; omega
    · rename_i s hs
      split
      · obtain ⟨a, b, hk, hl, ha, hb⟩ := rt_two hs (by omega)
        have h1 := keyF_len n a (right_len ha).1
        have h2 := keyF_len n b (right_len hb).1
        rw [hk]
        simp only [List.getD_cons_zero, List.getD_cons_succ, List.length_cons, List.length_append]
        omega
      · split
        · obtain ⟨a, b, hk, hl, ha, hb⟩ := rt_two hs (by omega)
          have h1 := keyF_len n a (right_len ha).1
          rw [hk]
          simp only [List.getD_cons_zero, List.getD_cons_succ, List.length_cons, List.length_append]
          omega
        · simp; omega

theorem keyF_fuel : ∀ (n m : Nat) (x : List UInt8), x.length ≤ n → x.length ≤ m → keyF n x = keyF m x
  | 0, 0, x, _, _ => rfl
  | 0, m + 1, x, h, _ => by
    have : x = [] := List.length_eq_zero_iff.1 (by omega)
    subst this
    simp [keyF, rt, rd]
  | n + 1, 0, x, _, h => by
    have : x = [] := List.length_eq_zero_iff.1 (by omega)
    subst this
    simp [keyF, rt, rd]
  | n + 1, m + 1, x, hn, hm => by
    simp only [keyF]
    split
    · rfl
    · rename_i s hs
      split
      · obtain ⟨a, b, hk, hl, ha, hb⟩ := rt_two hs (by omega)
        rw [hk]
        simp only [List.getD_cons_zero, List.getD_cons_succ]
        rw [keyF_fuel n m a (by omega) (by omega), keyF_fuel n m b (by omega) (by omega)]
      · split
        · obtain ⟨a, b, hk, hl, ha, hb⟩ := rt_two hs (by omega)
          rw [hk]
          simp only [List.getD_cons_zero, List.getD_cons_succ]
          rw [keyF_fuel n m a (by omega) (by omega)]
        · rfl

theorem keyT_eq (x : List UInt8) : keyT x = match rt x with
    | none => 80 :: x
    | some s =>
      if s.op.toNat = 86 then 87 :: (keyT (s.kids.getD 0 []) ++ keyT (s.kids.getD 1 []))
      else if s.op.toNat = 75 then 76 :: (keyT (s.kids.getD 0 []) ++ s.kids.getD 1 [])
      else 80 :: x := by
  rw [keyT, keyF_fuel x.length (x.length + 1) x (by omega) (by omega)]
  simp only [keyF]
  split
  · rfl
  · rename_i s hs
    split
    · obtain ⟨a, b, hk, hl, ha, hb⟩ := rt_two hs (by omega)
      rw [hk]
      simp only [List.getD_cons_zero, List.getD_cons_succ, keyT]
      rw [keyF_fuel x.length a.length a (by omega) (by omega), keyF_fuel x.length b.length b (by omega) (by omega)]
    · split
      · obtain ⟨a, b, hk, hl, ha, hb⟩ := rt_two hs (by omega)
        rw [hk]
        simp only [List.getD_cons_zero, List.getD_cons_succ, keyT]
        rw [keyF_fuel x.length a.length a (by omega) (by omega)]
      · rfl
theorem keyT_len {x : List UInt8} (h : 1 ≤ x.length) : (keyT x).length ≤ 2 * x.length := keyF_len _ _ h

def cat (ls : List (List UInt8)) : List UInt8 := ls.flatten
def tupleT (ls : List (List UInt8)) : List UInt8 × Int :=
  if 32 < ls.length then ([], 3) else if ls.all right = true then made (84 :: (Lib.decDigits ls.length ++ 58 :: cat ls)) else ([], 10)
theorem flat_len : ∀ (ls : List (List UInt8)), ls.all right = true → (cat ls).length ≤ 16384 * ls.length
  | [], _ => by simp [cat]
  | x :: r, h => by
    simp only [List.all_cons, Bool.and_eq_true] at h
    have h1 := (right_len h.1).2
    have h2 := flat_len r h.2
    simp only [cat] at h2
    simp only [cat, List.flatten_cons, List.length_append, List.length_cons]
    omega
theorem take_flat (ls : List (List UInt8)) (k : Nat) (x : List UInt8) (h : ls[k]? = some x) : cat (ls.take (k + 1)) = cat (ls.take k) ++ x := by
  rw [List.take_add_one, h]; simp [cat]
theorem take_all (ls : List (List UInt8)) (k : Nat) (x : List UInt8) (h : ls[k]? = some x) (h1 : (ls.take k).all right = true) (h2 : right x = true) : (ls.take (k + 1)).all right = true := by
  rw [List.take_add_one, h, List.all_append, h1]; simp [h2]
theorem not_all (ls : List (List UInt8)) (k : Nat) (x : List UInt8) (h : ls[k]? = some x) (h2 : right x = false) : ls.all right = false := by
  rw [List.all_eq_false]
  exact ⟨x, List.mem_of_getElem? h, by simp [h2]⟩

def pubT (x : List UInt8) : List UInt8 × Int := if right x = true then made (keyT x) else ([], 10)
def jointT (a b : List UInt8) : List UInt8 × Int := if right a = true ∧ right b = true ∧ pubC (head a) = true ∧ pubC (head b) = true then twoT 87 a b else ([], 10)
def boundT (a p : List UInt8) : List UInt8 × Int := if right a = true ∧ right p = true ∧ pubC (head a) = true then twoT 76 a p else ([], 10)

end Go.Proofs.YtchbhainmalbbaaDoor
