/- The program's reader of terms: the ways to read the rest, each by one contract. -/
import Derived.Test.YtchbhainmalbbaaDoorTermU
namespace Go.Proofs.YtchbhainmalbbaaDoor
open Go.RowKit

set_option maxRecDepth 100000 in
set_option maxHeartbeats 1000000 in
theorem tOne (l : List UInt8) (d : Nat) (hd : d ≤ 64) (ih : TermIH d l) (b X i : Nat) (D op n0 : Int) (t : List UInt8) (hD : D = d + 1) (hi : i ≤ l.length) (hl : l.length ≤ 20000) (w : World) (hR : RdAt w b l i) (hX : ShAt w X op n0 t (.slice none 0 0) 1) (hbX : b ≠ X) (hb : gN ≤ b) (hXg : gN ≤ X) (hG : GOk w) :
    Calls Tryd.prog 142 #[.pointer (some ⟨b, 0, none⟩), .pointer (some ⟨X, 0, none⟩), .int .i64 D] w (KidsPost b X l i op n0 t w (kidsBy (rd d) 1 (l.drop i))) := by
  have HD := Lib.hid hD
  clear hD
  cases hk : kidsBy (rd d) 1 (l.drop i) with
  | none =>
    have HK := Lib.hid hk
    clear hk
    go_enter Tryd.func142, Tryd.ntmps142
    go_wp2_with (go_at_call 148; refine (tKids l d hd ih b X i 1 _ _ op n0 t rfl (by omega) HD.out hi hl _ hR hX hbX hb hXg hG).mono ?_; rintro e w1 hp; rw [HK.out] at hp; obtain ⟨hg, rfl, hp⟩ := hp)
    go_ret
    exact ⟨hg, rfl, hp⟩
  | some y =>
    have HK := Lib.hid hk
    clear hk
    go_enter Tryd.func142, Tryd.ntmps142
    go_wp2_with (go_at_call 148; refine (tKids l d hd ih b X i 1 _ _ op n0 t rfl (by omega) HD.out hi hl _ hR hX hbX hb hXg hG).mono ?_; rintro e w1 hp; rw [HK.out] at hp; obtain ⟨hg, rfl, hp⟩ := hp)
    go_ret
    exact ⟨hg, rfl, hp⟩

set_option maxRecDepth 100000 in
set_option maxHeartbeats 1000000 in
theorem tTwo (l : List UInt8) (d : Nat) (hd : d ≤ 64) (ih : TermIH d l) (b X i : Nat) (D op n0 : Int) (t : List UInt8) (hD : D = d + 1) (hi : i ≤ l.length) (hl : l.length ≤ 20000) (w : World) (hR : RdAt w b l i) (hX : ShAt w X op n0 t (.slice none 0 0) 1) (hbX : b ≠ X) (hb : gN ≤ b) (hXg : gN ≤ X) (hG : GOk w) :
    Calls Tryd.prog 143 #[.pointer (some ⟨b, 0, none⟩), .pointer (some ⟨X, 0, none⟩), .int .i64 D] w (KidsPost b X l i op n0 t w (kidsBy (rd d) 2 (l.drop i))) := by
  have HD := Lib.hid hD
  clear hD
  cases hk : kidsBy (rd d) 2 (l.drop i) with
  | none =>
    have HK := Lib.hid hk
    clear hk
    go_enter Tryd.func143, Tryd.ntmps143
    go_wp2_with (go_at_call 148; refine (tKids l d hd ih b X i 2 _ _ op n0 t rfl (by omega) HD.out hi hl _ hR hX hbX hb hXg hG).mono ?_; rintro e w1 hp; rw [HK.out] at hp; obtain ⟨hg, rfl, hp⟩ := hp)
    go_ret
    exact ⟨hg, rfl, hp⟩
  | some y =>
    have HK := Lib.hid hk
    clear hk
    go_enter Tryd.func143, Tryd.ntmps143
    go_wp2_with (go_at_call 148; refine (tKids l d hd ih b X i 2 _ _ op n0 t rfl (by omega) HD.out hi hl _ hR hX hbX hb hXg hG).mono ?_; rintro e w1 hp; rw [HK.out] at hp; obtain ⟨hg, rfl, hp⟩ := hp)
    go_ret
    exact ⟨hg, rfl, hp⟩

/-- A tuple behind its op. -/
def tupK (d : Nat) (l : List UInt8) : Option (List (List UInt8) × Nat × Nat) :=
  match cnt 84 l with
  | none => none
  | some (m, k) => match kidsBy (rd d) m (l.drop k) with | none => none | some (ks, dp, len) => some (ks, dp, k + len)

theorem cnt84 (l : List UInt8) : cnt 84 l = match num 58 l with | none => none | some (n, k) => if 32 < n then none else some (n, k) := by
  unfold cnt; rw [if_pos rfl]; rfl

set_option maxRecDepth 100000 in
set_option maxHeartbeats 1000000 in
theorem tTuple (l : List UInt8) (d : Nat) (hd : d ≤ 64) (ih : TermIH d l) (b X i : Nat) (D op n0 : Int) (t : List UInt8) (hD : D = d + 1) (hi : i ≤ l.length) (hl : l.length ≤ 20000) (w : World) (hR : RdAt w b l i) (hX : ShAt w X op n0 t (.slice none 0 0) 1) (hbX : b ≠ X) (hb : gN ≤ b) (hXg : gN ≤ X) (hG : GOk w) :
    Calls Tryd.prog 141 #[.pointer (some ⟨b, 0, none⟩), .pointer (some ⟨X, 0, none⟩), .int .i64 D] w (KidsPost b X l i op n0 t w (tupK d (l.drop i))) := by
  have HD := Lib.hid hD
  clear hD
  cases hn : num 58 (l.drop i) with
  | none =>
    have HT : Hid (tupK d (l.drop i) = none) := by show tupK d (l.drop i) = none; simp [tupK, cnt84, hn]
    rw [HT.out]
    have HN := Lib.hid hn
    clear hn
    go_enter Tryd.func141, Tryd.ntmps141
    go_wp2_with (go_at_call 147; refine (tNumberG l b i _ 58 (.inl rfl) rfl hi hl _ hR hG.err).mono ?_; rintro e w1 hp; rw [HN.out] at hp; obtain ⟨hg, v, a, rfl, hR1⟩ := hp)
    go_ret
    exact ⟨by (repeat' (first | with_reducible exact gl_refl _ _ | with_reducible assumption | with_reducible refine gl_alloc ?_ _ | with_reducible refine gl_drewN ?_ _ | with_reducible refine gl_drew ?_ | (with_reducible refine gl_setn ?_ ?_ _; · (first | exact Nat.le_refl _ | (simp; done) | (simp; omega) | omega)) | (with_reducible refine gl_seti ?_ ?_ _; · (simp; done)) | with_reducible refine gl_below (by with_reducible assumption) ?_ | with_reducible refine gl_step (by with_reducible assumption) ?_ (by first | (simp; done) | (simp; omega)) | with_reducible refine gl_grown (by with_reducible assumption) ?_ (by first | (simp; done) | (simp; omega)))), rfl, a, hR1⟩
  | some y =>
    obtain ⟨n, k⟩ := y
    obtain ⟨hk2, hkl, hnb⟩ := num_bound hn
    rw [List.length_drop] at hkl
    have HN := Lib.hid hn
    by_cases h32 : 32 < n
    · have HT : Hid (tupK d (l.drop i) = none) := by show tupK d (l.drop i) = none; simp [tupK, cnt84, hn, h32]
      rw [HT.out]
      clear hn
      have h33 : (32 : Int) < (n : Int) := by omega
      go_enter Tryd.func141, Tryd.ntmps141
      go_wp2_with (go_at_call 147; refine (tNumberG l b i _ 58 (.inl rfl) rfl hi hl _ hR hG.err).mono ?_; rintro e w1 hp; rw [HN.out] at hp; obtain ⟨hg, rfl, hR1⟩ := hp)
      go_ret
      exact ⟨by (repeat' (first | with_reducible exact gl_refl _ _ | with_reducible assumption | with_reducible refine gl_alloc ?_ _ | with_reducible refine gl_drewN ?_ _ | with_reducible refine gl_drew ?_ | (with_reducible refine gl_setn ?_ ?_ _; · (first | exact Nat.le_refl _ | (simp; done) | (simp; omega) | omega)) | (with_reducible refine gl_seti ?_ ?_ _; · (simp; done)) | with_reducible refine gl_below (by with_reducible assumption) ?_ | with_reducible refine gl_step (by with_reducible assumption) ?_ (by first | (simp; done) | (simp; omega)) | with_reducible refine gl_grown (by with_reducible assumption) ?_ (by first | (simp; done) | (simp; omega)))), rfl, _, hR1⟩
    · have h33 : (n : Int) ≤ 32 := by omega
      have hik : i + k ≤ l.length := by omega
      cases hkb : kidsBy (rd d) n (l.drop (i + k)) with
      | none =>
        have HT : Hid (tupK d (l.drop i) = none) := by show tupK d (l.drop i) = none; simp [tupK, cnt84, hn, h32, hkb]
        rw [HT.out]
        have HK := Lib.hid hkb
        clear hn hkb
        go_enter Tryd.func141, Tryd.ntmps141
        go_wp2_with (first | (go_at_call 147; refine (tNumberG l b i _ 58 (.inl rfl) rfl hi hl _ hR hG.err).mono ?_; rintro e w1 hp; rw [HN.out] at hp; obtain ⟨hg, rfl, hR1⟩ := hp; have HX1 := Lib.hid (blk_gl hX hg (by simp; omega)); have HR1 := Lib.hid hR1; clear hR1; have HG1 := Lib.hid (gok_gl hG hg (by simp; omega))) | (go_at_call 148; go_must (refine (tKids l d hd ih b X (i + k) n _ _ op n0 t rfl (by omega) HD.out hik hl _ HR1.out HX1.out hbX hb hXg HG1.out).mono ?_); rintro e w2 hp; rw [HK.out] at hp; obtain ⟨hg2, rfl, hp⟩ := hp))
        go_ret
        exact ⟨by (repeat' (first | with_reducible exact gl_refl _ _ | with_reducible assumption | with_reducible refine gl_alloc ?_ _ | with_reducible refine gl_drewN ?_ _ | with_reducible refine gl_drew ?_ | (with_reducible refine gl_setn ?_ ?_ _; · (first | exact Nat.le_refl _ | (simp; done) | (simp; omega) | omega)) | (with_reducible refine gl_seti ?_ ?_ _; · (simp; done)) | with_reducible refine gl_below (by with_reducible assumption) ?_ | with_reducible refine gl_step (by with_reducible assumption) ?_ (by first | (simp; done) | (simp; omega)) | with_reducible refine gl_grown (by with_reducible assumption) ?_ (by first | (simp; done) | (simp; omega)))), rfl, hp⟩
      | some z =>
        obtain ⟨ks, dp, len⟩ := z
        have HT : Hid (tupK d (l.drop i) = some (ks, dp, k + len)) := by show tupK d (l.drop i) = _; simp [tupK, cnt84, hn, h32, hkb]
        rw [HT.out]
        have HK := Lib.hid hkb
        clear hn hkb
        go_enter Tryd.func141, Tryd.ntmps141
        go_wp2_with (first | (go_at_call 147; refine (tNumberG l b i _ 58 (.inl rfl) rfl hi hl _ hR hG.err).mono ?_; rintro e w1 hp; rw [HN.out] at hp; obtain ⟨hg, rfl, hR1⟩ := hp; have HX1 := Lib.hid (blk_gl hX hg (by simp; omega)); have HR1 := Lib.hid hR1; clear hR1; have HG1 := Lib.hid (gok_gl hG hg (by simp; omega))) | (go_at_call 148; go_must (refine (tKids l d hd ih b X (i + k) n _ _ op n0 t rfl (by omega) HD.out hik hl _ HR1.out HX1.out hbX hb hXg HG1.out).mono ?_); rintro e w2 hp; rw [HK.out] at hp; obtain ⟨hg2, rfl, hp⟩ := hp))
        go_ret
        obtain ⟨h1, ad, kn, kc, h2, h3⟩ := hp
        refine ⟨by (repeat' (first | with_reducible exact gl_refl _ _ | with_reducible assumption | with_reducible refine gl_alloc ?_ _ | with_reducible refine gl_drewN ?_ _ | with_reducible refine gl_drew ?_ | (with_reducible refine gl_setn ?_ ?_ _; · (first | exact Nat.le_refl _ | (simp; done) | (simp; omega) | omega)) | (with_reducible refine gl_seti ?_ ?_ _; · (simp; done)) | with_reducible refine gl_below (by with_reducible assumption) ?_ | with_reducible refine gl_step (by with_reducible assumption) ?_ (by first | (simp; done) | (simp; omega)) | with_reducible refine gl_grown (by with_reducible assumption) ?_ (by first | (simp; done) | (simp; omega)))), rfl, ?_, ad, kn, kc, h2, own_base h3 hg.size⟩
        rw [show i + (k + len) = i + k + len by omega]
        exact h1

/-- What is read of a term behind its op, before the parts are looked at. -/
def restR (d : Nat) (c : UInt8) (r : List UInt8) : Option Sh :=
  if c.toNat = 110 then (num 59 r).map fun (n, k) => ⟨c, 1 + k, 1, n, [], []⟩
  else if c.toNat = 116 then (textR r).map fun (n, k) => ⟨c, 1 + k + n, 1, n, (r.drop k).take n, []⟩
  else match cnt c r with
    | none => none
    | some (m, k) => match kidsBy (rd d) m (r.drop k) with
      | none => none
      | some (ks, dp, len) => some ⟨c, 1 + k + len, dp + 1, 0, [], ks⟩
theorem rd_rest (d : Nat) (c : UInt8) (r : List UInt8) : rd (d + 1) (c :: r) = match restR d c r with | none => none | some y => if fitsB c y.kids = true then some y else none := by
  simp only [rd, restR, ← UInt8.toNat_inj, UInt8.reduceToNat, textR]
  by_cases h1 : c.toNat = 110
  · have hf : ∀ ks, fitsB c ks = true := fun ks => by simp [fitsB, ← UInt8.toNat_inj, h1]
    simp only [if_pos h1]
    cases num 59 r <;> simp [hf]
  · simp only [if_neg h1]
    by_cases h2 : c.toNat = 116
    · have hf : ∀ ks, fitsB c ks = true := fun ks => by simp [fitsB, ← UInt8.toNat_inj, h2]
      simp only [if_pos h2]
      cases num 58 r with
      | none => rfl
      | some y =>
        obtain ⟨n, k⟩ := y
        simp only []
        split <;> simp [hf]
    · simp only [if_neg h2]
      cases cnt c r with
      | none => rfl
      | some y =>
        obtain ⟨m, k⟩ := y
        simp only []
        cases kidsBy (rd d) m (r.drop k) with
        | none => rfl
        | some z => rfl

def FormPost (b X : Nat) (l : List UInt8) (i : Nat) (op : Int) (w : World) (o : Option Sh) (e : Ending) (w' : World) : Prop :=
  GL [b, X] w w' ∧
  match o with
  | none => e = .returned (.bool false) ∧ ∃ a : Int, RdAt w' b l a
  | some y => e = .returned (.bool true) ∧ RdAt w' b l (i + y.len : Nat) ∧ ∃ ad kn kc, ShAt w' X op (numOf y) y.text (.slice ad kn kc) y.deep ∧
      w'.ownsRow w.heap.size 22 1 (.slice ad kn kc) y.kids.length (y.kids.map fun k => .string (bs k))

theorem formKids {b X : Nat} {l : List UInt8} {i : Nat} {c : UInt8} {d : Nat} {w w' : World} {e : Ending} {o : Option (List (List UInt8) × Nat × Nat)} (h1 : c.toNat ≠ 110) (h2 : c.toNat ≠ 116)
    (ho : o = match cnt c (l.drop (i + 1)) with | none => none | some (m, k) => match kidsBy (rd d) m ((l.drop (i + 1)).drop k) with | none => none | some (ks, dp, len) => some (ks, dp, k + len))
    (h : KidsPost b X l (i + 1) c.toNat 0 [] w o e w') : FormPost b X l i c.toNat w (restR d c (l.drop (i + 1))) e w' := by
  obtain ⟨hg, h⟩ := h
  refine ⟨hg, ?_⟩
  simp only [restR, if_neg h1, if_neg h2]
  cases hc : cnt c (l.drop (i + 1)) with
  | none =>
    simp only [hc] at ho
    subst ho
    exact h
  | some y =>
    obtain ⟨m, k⟩ := y
    simp only [hc] at ho
    cases hk : kidsBy (rd d) m ((l.drop (i + 1)).drop k) with
    | none =>
      simp only [hk] at ho
      subst ho
      simp only [hk]
      exact h
    | some z =>
      obtain ⟨ks, dp, len⟩ := z
      simp only [hk] at ho
      subst ho
      obtain ⟨h3, h4, ad, kn, kc, h5, h6⟩ := h
      simp only [hk]
      refine ⟨h3, ?_, ad, kn, kc, ?_, h6⟩
      · rw [show i + (1 + k + len) = i + 1 + (k + len) by omega]; exact h4
      · have : numOf (⟨c, 1 + k + len, dp + 1, 0, [], ks⟩ : Sh) = 0 := by simp [numOf]
        rw [this]
        exact h5

theorem tFormCall (l : List UInt8) (d : Nat) (hd : d ≤ 64) (ih : TermIH d l) (b X i : Nat) (c : UInt8) (f : Nat) (hf : formFn c.toNat = some f) (D : Int) (hD : D = d + 1) (hi : i + 1 ≤ l.length) (hl : l.length ≤ 20000) (w : World) (hR : RdAt w b l (i + 1 : Nat)) (hX : ShAt w X c.toNat 0 [] (.slice none 0 0) 1) (hbX : b ≠ X) (hb : gN ≤ b) (hXg : gN ≤ X) (hG : GOk w) :
    Calls Tryd.prog f #[.pointer (some ⟨b, 0, none⟩), .pointer (some ⟨X, 0, none⟩), .int .i64 D] w (FormPost b X l i c.toNat w (restR d c (l.drop (i + 1)))) := by
  have harity : c.toNat ≠ 84 → cnt c (l.drop (i + 1)) = (arity c).map fun n => (n, 0) := by
    intro h
    simp only [cnt, ← UInt8.toNat_inj, UInt8.reduceToNat]
    rw [if_neg h]
  simp only [formFn] at hf
  split at hf
  · rename_i h1
    simp only [Option.some.injEq] at hf
    subst hf
    refine (tName l b X (i + 1) D c.toNat 0 [] (.slice none 0 0) 1 hi hl w hR hX hbX hG.err).mono fun e w' hp => ?_
    obtain ⟨hg, hp⟩ := hp
    refine ⟨hg, ?_⟩
    simp only [restR, if_pos h1]
    cases hn : num 59 (l.drop (i + 1)) with
    | none => rw [hn] at hp; exact hp
    | some y =>
      obtain ⟨n, k⟩ := y
      rw [hn] at hp
      obtain ⟨h3, h4, h5⟩ := hp
      refine ⟨h3, ?_, none, 0, 0, ?_, ⟨rfl, Or.inl ⟨rfl, rfl⟩⟩⟩
      · rw [show i + (1 + k) = i + 1 + k by omega]; exact h4
      · have : numOf (⟨c, 1 + k, 1, n, [], []⟩ : Sh) = n := by simp [numOf, h1]
        rw [this]; exact h5
  · rename_i h1
    split at hf
    · rename_i h2
      simp only [Option.some.injEq] at hf
      subst hf
      refine (tText l b X (i + 1) D c.toNat 0 [] (.slice none 0 0) 1 hi hl w hR hX hbX hG.err).mono fun e w' hp => ?_
      obtain ⟨hg, hp⟩ := hp
      refine ⟨hg, ?_⟩
      simp only [restR, if_neg h1, if_pos h2]
      cases hn : textR (l.drop (i + 1)) with
      | none => rw [hn] at hp; exact hp
      | some y =>
        obtain ⟨n, k⟩ := y
        rw [hn] at hp
        obtain ⟨h3, h4, h5⟩ := hp
        refine ⟨h3, ?_, none, 0, 0, ?_, ⟨rfl, Or.inl ⟨rfl, rfl⟩⟩⟩
        · rw [show i + (1 + k + n) = i + 1 + k + n by omega]; exact h4
        · have : numOf (⟨c, 1 + k + n, 1, n, ((l.drop (i + 1)).drop k).take n, []⟩ : Sh) = 0 := by simp [numOf, h1]
          rw [this]
          rw [← List.drop_drop] at h5
          exact h5
    · rename_i h2
      split at hf
      · rename_i h3
        simp only [Option.some.injEq] at hf
        subst hf
        have hc : c = 84 := by rw [← UInt8.toNat_inj]; exact h3
        refine (tTuple l d hd ih b X (i + 1) D c.toNat 0 [] hD hi hl w hR hX hbX hb hXg hG).mono fun e w' hp => ?_
        refine formKids h1 h2 ?_ hp
        rw [hc]; rfl
      · rename_i h3
        split at hf
        · rename_i h4
          simp only [Option.some.injEq] at hf
          subst hf
          refine (tOne l d hd ih b X (i + 1) D c.toNat 0 [] hD hi hl w hR hX hbX hb hXg hG).mono fun e w' hp => ?_
          refine formKids h1 h2 ?_ hp
          rw [harity h3, show arity c = some 1 by simp only [arity, ← UInt8.toNat_inj, UInt8.reduceToNat]; rw [if_pos h4]]
          simp only [Option.map_some, List.drop_zero]
          cases kidsBy (rd d) 1 (l.drop (i + 1)) with
          | none => rfl
          | some z => simp
        · rename_i h4
          split at hf
          · rename_i h5
            simp only [Option.some.injEq] at hf
            subst hf
            refine (tTwo l d hd ih b X (i + 1) D c.toNat 0 [] hD hi hl w hR hX hbX hb hXg hG).mono fun e w' hp => ?_
            refine formKids h1 h2 ?_ hp
            rw [harity h3, show arity c = some 2 by simp only [arity, ← UInt8.toNat_inj, UInt8.reduceToNat]; rw [if_neg h4, if_pos h5]]
            simp only [Option.map_some, List.drop_zero]
            cases kidsBy (rd d) 2 (l.drop (i + 1)) with
            | none => rfl
            | some z => simp
          · simp at hf

theorem formNone {c : UInt8} (h : formFn c.toNat = none) (d : Nat) (r : List UInt8) : restR d c r = none := by
  simp only [formFn] at h
  split at h
  · simp at h
  · rename_i h1
    split at h
    · simp at h
    · rename_i h2
      split at h
      · simp at h
      · rename_i h3
        split at h
        · simp at h
        · rename_i h4
          split at h
          · simp at h
          · rename_i h5
            simp only [restR, if_neg h1, if_neg h2]
            have : cnt c r = none := by
              simp only [cnt, arity, ← UInt8.toNat_inj, UInt8.reduceToNat]
              rw [if_neg h3, if_neg h4, if_neg h5]; rfl
            rw [this]
end Go.Proofs.YtchbhainmalbbaaDoor
