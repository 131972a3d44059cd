/- Parts that lie one behind the other in a text; a row of parts read so far. -/
import Derived.Test.YtchbhainmalbbaaDoorSpec
namespace Go.Proofs.YtchbhainmalbbaaDoor

def offsL (b : Nat) : List (List UInt8) → List Nat
  | [] => [b]
  | k :: ks => b :: offsL (b + k.length) ks

def CutsAt (l : List UInt8) : Nat → List (List UInt8) → Prop
  | _, [] => True
  | b, k :: ks => k = (l.drop b).take k.length ∧ b + k.length ≤ l.length ∧ k ≠ [] ∧ CutsAt l (b + k.length) ks

theorem offsL_length (ks : List (List UInt8)) : ∀ b, (offsL b ks).length = ks.length + 1 := by
  induction ks with
  | nil => intro b; rfl
  | cons k ks ih => intro b; simp [offsL, ih]
theorem offsL_snoc (k : List UInt8) (ks : List (List UInt8)) : ∀ b, offsL b (ks ++ [k]) = offsL b ks ++ [b + sumL ks + k.length] := by
  induction ks with
  | nil => intro b; simp [offsL, sumL]
  | cons x ks ih => intro b; simp [offsL, sumL, ih, Nat.add_assoc]
theorem sumL_snoc (k : List UInt8) (ks : List (List UInt8)) : sumL (ks ++ [k]) = sumL ks + k.length := by
  induction ks with
  | nil => simp [sumL]
  | cons x ks ih => simp [sumL, ih, Nat.add_assoc]
theorem cutsAt_snoc {l : List UInt8} {k : List UInt8} (ks : List (List UInt8)) : ∀ b, CutsAt l b ks → k = (l.drop (b + sumL ks)).take k.length → b + sumL ks + k.length ≤ l.length → k ≠ [] → CutsAt l b (ks ++ [k]) := by
  induction ks with
  | nil => intro b _ h1 h2 h3; simpa [CutsAt, sumL] using ⟨by simpa [sumL] using h1, by simpa [sumL] using h2, h3⟩
  | cons x ks ih =>
    intro b h h1 h2 h3
    simp only [sumL] at h1 h2
    rw [← Nat.add_assoc] at h1 h2
    exact ⟨h.1, h.2.1, h.2.2.1, ih _ h.2.2.2 h1 h2 h3⟩

/-- So many parts are read, the rest is to come. -/
def KProg (f : List UInt8 → Option Sh) (l : List UInt8) (b m k c dp : Nat) (ks : List (List UInt8)) : Prop :=
  kidsBy f m (l.drop b) = match kidsBy f (m - k) (l.drop (b + c)) with
    | none => none
    | some (ks', dp', len') => some (ks ++ ks', max dp dp', c + len')

theorem kprog_start (f : List UInt8 → Option Sh) (l : List UInt8) (b m : Nat) : KProg f l b m 0 0 0 [] := by
  unfold KProg
  rw [Nat.sub_zero, Nat.add_zero]
  cases kidsBy f m (l.drop b) with
  | none => rfl
  | some x => obtain ⟨ks, dp, len⟩ := x; simp
theorem kprog_none {f : List UInt8 → Option Sh} {l : List UInt8} {b m k c dp : Nat} {ks : List (List UInt8)} (h : KProg f l b m k c dp ks) (hk : k < m) (hf : f (l.drop (b + c)) = none) : kidsBy f m (l.drop b) = none := by
  unfold KProg at h
  rw [h, show m - k = (m - k - 1) + 1 by omega, kidsBy, hf]
theorem kprog_some {f : List UInt8 → Option Sh} {l : List UInt8} {b m k c dp : Nat} {ks : List (List UInt8)} {x : Sh} (h : KProg f l b m k c dp ks) (hk : k < m) (hf : f (l.drop (b + c)) = some x) :
    KProg f l b m (k + 1) (c + x.len) (max dp x.deep) (ks ++ [(l.drop (b + c)).take x.len]) := by
  unfold KProg at *
  rw [h, show m - k = (m - (k + 1)) + 1 by omega, kidsBy, hf]
  simp only [List.drop_drop]
  rw [Nat.add_assoc b c x.len]
  cases kidsBy f (m - (k + 1)) (l.drop (b + (c + x.len))) with
  | none => rfl
  | some y =>
    obtain ⟨ks', dp', len'⟩ := y
    simp only [List.append_assoc, List.cons_append, List.nil_append, Option.some.injEq, Prod.mk.injEq, true_and]
    exact ⟨by omega, by omega⟩
theorem kprog_end {f : List UInt8 → Option Sh} {l : List UInt8} {b m c dp : Nat} {ks : List (List UInt8)} (h : KProg f l b m m c dp ks) : kidsBy f m (l.drop b) = some (ks, dp, c) := by
  unfold KProg at h
  rw [h, Nat.sub_self, kidsBy]
  simp

/-! What the layer makes: a text and an error's number. -/
def rt (l : List UInt8) : Option Sh :=
  if l.length ≤ 16384 then (match rd 64 l with | some x => if x.len = l.length then some x else none | none => none) else none
def right (l : List UInt8) : Bool := (rt l).isSome
def made (l : List UInt8) : List UInt8 × Int := if right l = true then (l, 0) else ([], 3)
def textT (l : List UInt8) : List UInt8 × Int := if 4096 < l.length then ([], 3) else (116 :: (Lib.decDigits l.length ++ 58 :: l), 0)
def oneT (op : UInt8) (x : List UInt8) : List UInt8 × Int := if right x = true then made (op :: x) else ([], 10)
def twoT (op : UInt8) (x y : List UInt8) : List UInt8 × Int := if right x = true ∧ right y = true then made (op :: (x ++ y)) else ([], 10)

theorem right_len {l : List UInt8} (h : right l = true) : 1 ≤ l.length ∧ l.length ≤ 16384 := by
  unfold right rt at h
  split at h
  · refine ⟨?_, by assumption⟩
    cases l with
    | nil => simp [rd] at h
    | cons c r => simp
  · simp at h

theorem kidsBy_cuts {f : List UInt8 → Option Sh} {d : Nat} (hf : ∀ l x, f l = some x → ShOk d l x) (l : List UInt8) : ∀ (m b : Nat) (ks : List (List UInt8)) (dp len : Nat),
    b ≤ l.length → kidsBy f m (l.drop b) = some (ks, dp, len) → CutsAt l b ks
  | 0, b, ks, dp, len, hb, h => by
    simp only [kidsBy, Option.some.injEq, Prod.mk.injEq] at h
    obtain ⟨rfl, _, _⟩ := h
    trivial
  | m + 1, b, ks, dp, len, hb, h => by
    simp only [kidsBy] at h
    split at h
    · simp at h
    · rename_i x hx
      have h1 := hf _ _ hx
      unfold ShOk at h1
      rw [List.length_drop] at h1
      split at h
      · simp at h
      · rename_i ks' dp' len' hk
        rw [List.drop_drop] at hk
        simp only [Option.some.injEq, Prod.mk.injEq] at h
        obtain ⟨rfl, _, _⟩ := h
        have hl : ((l.drop b).take x.len).length = x.len := by rw [List.length_take, List.length_drop]; omega
        have h2 := kidsBy_cuts hf l m (b + x.len) ks' dp' len' (by omega) hk
        refine ⟨by rw [hl], by rw [hl]; omega, ?_, by rw [hl]; exact h2⟩
        intro e
        rw [e] at hl
        simp at hl
        omega

/-- What the parts of a reading are. -/
theorem rd_parts {d : Nat} {l : List UInt8} {x : Sh} (h : rd d l = some x) :
    (x.op.toNat = 110 → x.text = [] ∧ x.kids = [] ∧ x.n ≤ 9223372036854775807) ∧
    (x.op.toNat = 116 → x.kids = [] ∧ x.n + 3 ≤ x.len ∧ x.text = (l.drop (x.len - x.n)).take x.n) ∧
    (x.op.toNat ≠ 110 → x.op.toNat ≠ 116 → x.text = [] ∧ CutsAt l (x.len - sumL x.kids) x.kids ∧ sumL x.kids + 1 ≤ x.len ∧ x.n = 0 ∧ x.kids.length ≤ 32) := by
  cases d with
  | zero => simp [rd] at h
  | succ d =>
    cases l with
    | nil => simp [rd] at h
    | cons c r =>
      simp only [rd, ← UInt8.toNat_inj, UInt8.reduceToNat] at h
      split at h
      · rename_i hc
        cases hn : num 59 r with
        | none => simp [hn] at h
        | some y =>
          have := num_bound hn
          simp only [hn, Option.map_some, Option.some.injEq] at h
          subst h
          exact ⟨fun _ => ⟨rfl, rfl, this.2.2⟩, fun h => by simp only at h; omega, fun h => by simp only at h; omega⟩
      · split at h
        · rename_i hc0 hc
          split at h
          · simp at h
          · rename_i hn
            have := num_bound hn
            split at h
            · simp at h
            · simp only [Option.some.injEq] at h
              subst h
              refine ⟨fun h => by simp only at h; omega, fun _ => ⟨rfl, by simp only; omega, ?_⟩, fun _ h => by simp only at h; omega⟩
              simp only [Nat.add_sub_cancel]
              rw [Nat.add_comm 1, List.drop_succ_cons]
        · rename_i hc0 hc1
          split at h
          · simp at h
          · rename_i m k hc
            have hcb := cnt_bound hc
            split at h
            · simp at h
            · rename_i ks dp len hk
              have h2 := kidsBy_ok (rd_ok d) m _ _ _ _ hk
              rw [List.length_drop] at h2
              split at h
              · simp only [Option.some.injEq] at h
                subst h
                refine ⟨fun h => absurd h hc0, fun h => absurd h hc1, fun _ _ => ⟨rfl, ?_, by simp only; omega, rfl, by simp only; omega⟩⟩
                simp only
                rw [show 1 + k + len - sumL ks = 1 + k by omega]
                exact kidsBy_cuts (rd_ok d) (c :: r) m (1 + k) ks dp len (by simp; omega) (by rw [Nat.add_comm 1, List.drop_succ_cons]; exact hk)
              · simp at h

/-- The parts by their places. -/
theorem cutsAt_get {l : List UInt8} : ∀ (ks : List (List UInt8)) (b j : Nat), CutsAt l b ks → j < ks.length →
    ∃ a e : Nat, (offsL b ks)[j]? = some a ∧ (offsL b ks)[j + 1]? = some e ∧ a ≤ e ∧ e ≤ l.length ∧ ks[j]? = some ((l.drop a).take (e - a))
  | [], _, _, _, hj => by simp at hj
  | k :: ks, b, 0, h, _ => by
    obtain ⟨h1, h2, _, _⟩ := h
    refine ⟨b, b + k.length, rfl, ?_, by omega, h2, ?_⟩
    · cases ks <;> rfl
    · rw [Nat.add_sub_cancel_left, ← h1]; rfl
  | k :: ks, b, j + 1, h, hj => by
    obtain ⟨a, e, h1, h2, h3⟩ := cutsAt_get ks (b + k.length) j h.2.2.2 (by simpa using hj)
    exact ⟨a, e, by simpa [offsL] using h1, by simpa [offsL] using h2, h3.1, h3.2.1, by simpa using h3.2.2⟩

end Go.Proofs.YtchbhainmalbbaaDoor
