/- Terms that are written are right: digits, names, texts, terms side by side. No program stands in this text. -/
import Derived.Test.YtchbhainmalbbaaDoorSpecC
namespace Go.Proofs.YtchbhainmalbbaaDoor

theorem dg_toNat (d : Nat) (h : d < 10) : (UInt8.ofNat (48 + d)).toNat = 48 + d := by
  rw [UInt8.toNat_ofNat']; omega

theorem numGo_dec (e : UInt8) (he : 57 < e.toNat) (n : Nat) : ∀ (r : List UInt8), n ≤ 9223372036854775807 → numGo e (Lib.decDigits n ++ r) 0 0 = numGo e r n (Lib.decDigits n).length := by
  induction n using Nat.strongRecOn with
  | ind n ih =>
    intro r hn
    by_cases h : n < 10
    · rw [Lib.decDigits, dif_pos h]
      simp only [List.cons_append, List.nil_append, numGo, dg_toNat n h, List.length_cons, List.length_nil]
      rw [if_neg (by omega), if_neg (by omega), if_neg (by omega)]
      congr 1; omega
    · have hp := dec_pos (n / 10)
      rw [show Lib.decDigits n = Lib.decDigits (n / 10) ++ [UInt8.ofNat (48 + n % 10)] from by rw [Lib.decDigits, dif_neg h]]
      rw [List.append_assoc, ih (n / 10) (by omega) _ (by omega)]
      simp only [List.cons_append, List.nil_append, numGo, dg_toNat (n % 10) (by omega), List.length_append, List.length_cons, List.length_nil]
      rw [if_neg (by omega), if_neg (by omega), if_neg (by omega)]
      congr 1; omega

theorem num_dec (e : UInt8) (he : 57 < e.toNat) (n : Nat) (r : List UInt8) (hn : n ≤ 9223372036854775807) : num e (Lib.decDigits n ++ e :: r) = some (n, (Lib.decDigits n).length + 1) := by
  unfold num
  rw [numGo_dec e he n _ hn, numGo, if_pos ⟨rfl, dec_pos n⟩]

theorem kidsBy_ext {f : List UInt8 → Option Sh} {d : Nat} (hf : ∀ l x, f l = some x → ShOk d l x) (he : ∀ l x r, f l = some x → f (l ++ r) = some x) :
    ∀ (m : Nat) (l r : List UInt8) (y : List (List UInt8) × Nat × Nat), kidsBy f m l = some y → kidsBy f m (l ++ r) = some y
  | 0, l, r, y, h => by simpa [kidsBy] using h
  | m + 1, l, r, y, h => by
    simp only [kidsBy] at h ⊢
    split at h
    · simp at h
    · rename_i x hx
      have hl := (hf _ _ hx).2.1
      split at h
      · simp at h
      · rename_i ks dp len hk
        rw [he _ _ r hx]
        simp only
        rw [List.drop_append_of_le_length hl, kidsBy_ext hf he m _ r _ hk]
        simp only
        rw [List.take_append_of_le_length hl]
        exact h

theorem cnt_app {c : UInt8} {r : List UInt8} {y : Nat × Nat} (h : cnt c r = some y) (m : List UInt8) : cnt c (r ++ m) = some y := by
  simp only [cnt] at h ⊢
  split at h
  · rw [if_pos (by assumption)]
    cases hn : num 58 r with
    | none => simp [hn] at h
    | some y =>
      obtain ⟨n, k⟩ := y
      rw [num_app hn]
      simpa [hn] using h
  · rw [if_neg (by assumption)]; exact h

theorem rd_ext : ∀ (d : Nat) (l : List UInt8) (x : Sh) (m : List UInt8), rd d l = some x → rd d (l ++ m) = some x
  | 0, _, _, _, h => by simp [rd] at h
  | _ + 1, [], _, _, h => by simp [rd] at h
  | d + 1, c :: r, x, m, h => by
    simp only [rd, List.cons_append] at h ⊢
    split at h
    · rw [if_pos (by assumption)]
      cases hn : num 59 r with
      | none => simp [hn] at h
      | some y => rw [num_app hn]; simpa [hn] using h
    · rw [if_neg (by assumption)]
      split at h
      · rw [if_pos (by assumption)]
        split at h
        · simp at h
        · rename_i n k hn
          have hb := num_bound hn
          split at h
          · simp at h
          · rw [num_app hn]
            simp only
            rw [if_neg (by rw [List.length_append]; omega), List.drop_append_of_le_length (by omega), List.take_append_of_le_length (by rw [List.length_drop]; omega)]
            exact h
      · rw [if_neg (by assumption)]
        split at h
        · simp at h
        · rename_i n k hc
          have hb := cnt_bound hc
          rw [cnt_app hc]
          simp only
          split at h
          · simp at h
          · rename_i ks dp len hk
            rw [List.drop_append_of_le_length hb.2, kidsBy_ext (rd_ok d) (fun l x m => rd_ext d l x m) _ _ m _ hk]
            exact h

/-- A term that is not so deep is read with less room, too. -/
theorem rd_less : ∀ (d d' : Nat) (l : List UInt8) (x : Sh), rd d l = some x → x.deep ≤ d' → rd d' l = some x
  | 0, _, _, _, h, _ => by simp [rd] at h
  | _ + 1, _, [], _, h, _ => by simp [rd] at h
  | d + 1, 0, c :: r, x, h, hd => by
    have := (rd_ok _ _ _ h).2.2.1
    omega
  | d + 1, d' + 1, c :: r, x, h, hd => by
    simp only [rd] at h ⊢
    split at h
    · rw [if_pos (by assumption)]; exact h
    · rw [if_neg (by assumption)]
      split at h
      · rw [if_pos (by assumption)]; exact h
      · rw [if_neg (by assumption)]
        split at h
        · simp at h
        · rename_i m k hc
          split at h
          · simp at h
          · rename_i ks dp len hk
            split at h
            · simp only [Option.some.injEq] at h
              subst h
              simp only at hd
              rw [kidsLess d d' (rd_less d d') m _ ks dp len hk (by omega)]
              simp [*]
            · simp at h
where
  kidsLess (d d' : Nat) (hf : ∀ l x, rd d l = some x → x.deep ≤ d' → rd d' l = some x) : ∀ (m : Nat) (l : List UInt8) (ks : List (List UInt8)) (dp len : Nat), kidsBy (rd d) m l = some (ks, dp, len) → dp ≤ d' → kidsBy (rd d') m l = some (ks, dp, len)
    | 0, l, ks, dp, len, h, _ => by simpa [kidsBy] using h
    | m + 1, l, ks, dp, len, h, hd => by
      simp only [kidsBy] at h ⊢
      split at h
      · simp at h
      · rename_i x hx
        split at h
        · simp at h
        · rename_i ks' dp' len' hk
          simp only [Option.some.injEq, Prod.mk.injEq] at h
          obtain ⟨rfl, rfl, rfl⟩ := h
          rw [hf _ _ hx (by omega)]
          simp only
          rw [kidsLess d d' hf m _ _ _ _ hk (by omega)]

/-- A right term, of at most such a depth. -/
def RtD (d : Nat) (l : List UInt8) : Prop := ∃ x, rd d l = some x ∧ x.len = l.length

theorem rtD_right {d : Nat} {l : List UInt8} (hd : d ≤ 64) (h : RtD d l) (hl : l.length ≤ 16384) : right l = true := by
  obtain ⟨x, hx, hxl⟩ := h
  unfold right rt
  rw [if_pos hl, rd_mono d 64 l x hd hx]
  simp [hxl]
theorem right_rtD {l : List UInt8} (h : right l = true) : RtD 64 l ∧ l.length ≤ 16384 := by
  unfold right rt at h
  split at h
  · split at h
    · rename_i x hx
      split at h
      · exact ⟨⟨x, hx, by assumption⟩, by assumption⟩
      · simp at h
    · simp at h
  · simp at h
theorem rtD_mono {d d' : Nat} {l : List UInt8} (hd : d ≤ d') (h : RtD d l) : RtD d' l := by
  obtain ⟨x, hx, hxl⟩ := h
  exact ⟨x, rd_mono d d' l x hd hx, hxl⟩

theorem rtD_text (s : List UInt8) (d : Nat) (h : s.length ≤ 4096) : RtD (d + 1) (116 :: (Lib.decDigits s.length ++ 58 :: s)) := by
  have hn := num_dec 58 (by decide) s.length s (by omega)
  refine ⟨⟨116, 1 + ((Lib.decDigits s.length).length + 1) + s.length, 1, s.length, s, []⟩, ?_, by simp; omega⟩
  simp only [rd]
  rw [if_neg (by decide), if_pos (by decide), hn]
  simp only
  rw [if_neg (by simp; omega)]
  have e : (Lib.decDigits s.length ++ 58 :: s).drop ((Lib.decDigits s.length).length + 1) = s := by
    rw [show Lib.decDigits s.length ++ 58 :: s = (Lib.decDigits s.length ++ [58]) ++ s by simp]
    rw [List.drop_left' (by simp)]
  rw [e, List.take_length]
theorem rtD_name (n : Nat) (d : Nat) (h : n ≤ 9223372036854775807) : RtD (d + 1) (110 :: (Lib.decDigits n ++ [59])) := by
  have hn := num_dec 59 (by decide) n [] h
  refine ⟨⟨110, 1 + ((Lib.decDigits n).length + 1), 1, n, [], []⟩, ?_, by simp; omega⟩
  simp only [rd]
  rw [if_pos (by decide), hn]
  rfl

theorem kidsBy_cat (d : Nat) : ∀ (ls : List (List UInt8)) (r : List UInt8), (∀ a ∈ ls, RtD d a) → ∃ dp, kidsBy (rd d) ls.length (cat ls ++ r) = some (ls, dp, (cat ls).length)
  | [], r, _ => ⟨0, by simp [kidsBy, cat]⟩
  | a :: ls, r, h => by
    obtain ⟨x, hx, hxl⟩ := h a (by simp)
    obtain ⟨dp, hk⟩ := kidsBy_cat d ls r (fun b hb => h b (by simp [hb]))
    refine ⟨max x.deep dp, ?_⟩
    have e : cat (a :: ls) ++ r = a ++ (cat ls ++ r) := by simp [cat]
    rw [e, List.length_cons, kidsBy, rd_ext _ _ _ _ hx]
    simp only
    rw [hxl, List.drop_left, hk]
    simp [cat]

theorem rtD_tuple (d : Nat) (ls : List (List UInt8)) (hn : ls.length ≤ 32) (h : ∀ a ∈ ls, RtD d a) : RtD (d + 1) (84 :: (Lib.decDigits ls.length ++ 58 :: cat ls)) := by
  have hnum := num_dec 58 (by decide) ls.length (cat ls) (by omega)
  obtain ⟨dp, hk⟩ := kidsBy_cat d ls [] h
  rw [List.append_nil] at hk
  refine ⟨⟨84, 1 + ((Lib.decDigits ls.length).length + 1) + (cat ls).length, dp + 1, 0, [], ls⟩, ?_, by simp; omega⟩
  simp only [rd]
  rw [if_neg (by decide), if_neg (by decide)]
  have hc : cnt 84 (Lib.decDigits ls.length ++ 58 :: cat ls) = some (ls.length, (Lib.decDigits ls.length).length + 1) := by
    simp only [cnt]
    rw [if_pos (by decide), hnum]
    simp only
    rw [if_neg (by omega)]
  rw [hc]
  simp only
  have e : (Lib.decDigits ls.length ++ 58 :: cat ls).drop ((Lib.decDigits ls.length).length + 1) = cat ls := by
    rw [show Lib.decDigits ls.length ++ 58 :: cat ls = (Lib.decDigits ls.length ++ [58]) ++ cat ls by simp]
    rw [List.drop_left' (by simp)]
  rw [e, hk]
  simp only
  rw [if_pos (by simp [fitsB])]

theorem rtD_two (d : Nat) (c : UInt8) (a b : List UInt8) (hc : arity c = some 2) (hf : fitsB c [a, b] = true) (ha : RtD d a) (hb : RtD d b) : RtD (d + 1) (c :: (a ++ b)) := by
  obtain ⟨dp, hk⟩ := kidsBy_cat d [a, b] [] (by intro x hx; simp at hx; rcases hx with rfl | rfl <;> assumption)
  have e : cat [a, b] = a ++ b := by simp [cat]
  rw [List.append_nil, e] at hk
  refine ⟨⟨c, 1 + 0 + (a ++ b).length, dp + 1, 0, [], [a, b]⟩, ?_, by simp; omega⟩
  have h1 : c ≠ 110 := by rintro rfl; simp [arity] at hc
  have h2 : c ≠ 116 := by rintro rfl; simp [arity] at hc
  have h3 : c ≠ 84 := by rintro rfl; simp [arity] at hc
  simp only [rd]
  rw [if_neg h1, if_neg h2, show cnt c (a ++ b) = some (2, 0) by simp [cnt, h3, hc]]
  simp only [List.drop_zero]
  rw [show ([a, b] : List (List UInt8)).length = 2 from rfl] at hk
  rw [hk]
  simp only
  rw [if_pos hf]
theorem rtD_one (d : Nat) (c : UInt8) (a : List UInt8) (hc : arity c = some 1) (hf : fitsB c [a] = true) (ha : RtD d a) : RtD (d + 1) (c :: a) := by
  obtain ⟨dp, hk⟩ := kidsBy_cat d [a] [] (by intro x hx; simp at hx; subst hx; assumption)
  have e : cat [a] = a := by simp [cat]
  rw [List.append_nil, e] at hk
  refine ⟨⟨c, 1 + 0 + a.length, dp + 1, 0, [], [a]⟩, ?_, by simp; omega⟩
  have h1 : c ≠ 110 := by rintro rfl; simp [arity] at hc
  have h2 : c ≠ 116 := by rintro rfl; simp [arity] at hc
  have h3 : c ≠ 84 := by rintro rfl; simp [arity] at hc
  simp only [rd]
  rw [if_neg h1, if_neg h2, show cnt c a = some (1, 0) by simp [cnt, h3, hc]]
  simp only [List.drop_zero]
  rw [show ([a] : List (List UInt8)).length = 1 from rfl] at hk
  rw [hk]
  simp only
  rw [if_pos hf]

end Go.Proofs.YtchbhainmalbbaaDoor
