/- Rows of bytes: parts of them. -/
import Derived.Test.YtembdkodajichaaGreatDoorBechG
set_option linter.unusedSimpArgs false
set_option linter.unusedVariables false
namespace Go.Proofs.YtembdkodajichaaGreatDoor
open Go.RowKit
theorem inAt_form {v : Value} {l : List UInt8} {w : World} (h : InAt v l w) : ∃ a c, v = .slice a l.length c ∧ l.length ≤ c ∧ (l ≠ [] → ∃ G o, a = some ⟨G, o, none⟩ ∧ BytesAt G o l w) := by
 obtain ⟨G, o, c, h1, h2, h3⟩ := h
 rcases h1 with ⟨h1, ad, cc, rfl⟩ | ⟨h1, rfl⟩
 · refine ⟨ad, cc, by rw [← h1], by omega, fun hn => ?_⟩
   exact absurd (List.eq_nil_of_length_eq_zero h1.symm) hn
 · exact ⟨some ⟨G, o, none⟩, c, by simp, h2, fun hn => ⟨G, o, rfl, h3 hn⟩⟩
theorem inAt_mk {a : Option Addr} {n c : Nat} {l : List UInt8} {w : World} (hn : n = l.length) (hc : l.length ≤ c) (h : l ≠ [] → ∃ G o, a = some ⟨G, o, none⟩ ∧ BytesAt G o l w) : InAt (.slice a n c) l w := by
 subst hn
 by_cases hl : l = []
 · subst hl
   exact ⟨0, 0, c, .inl ⟨rfl, a, c, rfl⟩, hc, fun h => absurd rfl h⟩
 · obtain ⟨G, o, rfl, hb⟩ := h hl
   have : 0 < l.length := List.length_pos_iff.2 hl
   exact ⟨G, o, c, .inr ⟨this, by simp⟩, hc, fun _ => hb⟩
theorem inAt_take {a : Option Addr} {m c n c2 : Nat} {l : List UInt8} {w : World} (h : InAt (.slice a m c) l w) (hn : n ≤ l.length) (hc : n ≤ c2) : InAt (.slice a n c2) (l.take n) w := by
 obtain ⟨a', c', e, hc', hb⟩ := inAt_form h
 injection e with e1 e2 e3
 subst e1
 refine inAt_mk (by rw [List.length_take]; omega) (by rw [List.length_take]; omega) fun hne => ?_
 obtain ⟨G, o, hA, hB, hj⟩ := hb (fun h0 => hne (by rw [h0]; simp))
 refine ⟨G, o, hA, hB, fun j hjl => ?_⟩
 rw [List.length_take] at hjl
 rw [hj j om_, List.getD_eq_getElem?_getD, List.getD_eq_getElem?_getD, List.getElem?_take_of_lt om_]
theorem inAt_drop {a : Option Addr} {m c n : Nat} {l : List UInt8} {w : World} (h : InAt (.slice a m c) l w) (hn : n ≤ l.length) : InAt (.slice (if c = n then a else a.map (·.add n)) (m - n) (c - n)) (l.drop n) w := by
 obtain ⟨a', c', e, hc', hb⟩ := inAt_form h
 injection e with e1 e2 e3
 subst e1 e2 e3
 refine inAt_mk (by rw [List.length_drop]) (by rw [List.length_drop]; omega) fun hne => ?_
 have hnl : n < l.length := by
  rcases Nat.lt_or_ge n l.length with h | h
  · exact h
  · exact absurd (List.drop_eq_nil_of_le h) hne
 obtain ⟨G, o, rfl, hB, hj⟩ := hb (fun h0 => hne (by rw [h0]; simp))
 rw [if_neg om_]
 refine ⟨G, o + n, ?_, hB, fun j hjl => ?_⟩
 · simp only [Option.map_some, Addr.add]
   by_cases h0 : n = 0
   · subst h0; simp
   · simp [h0]
 · rw [List.length_drop] at hjl
   rw [show o + n + j = o + (n + j) by omega, hj _ om_, List.getD_eq_getElem?_getD, List.getD_eq_getElem?_getD, List.getElem?_drop]
theorem inAt_glr {v : Value} {l : List UInt8} {w w' : World} {R : Nat} (h : InAt v l w) (hg : GL [R] w w') (hne : ∀ G o c, v = .slice (some ⟨G, o, none⟩) l.length c → l ≠ [] → G ≠ R) : InAt v l w' := by
 obtain ⟨a, c, rfl, hc, hb⟩ := inAt_form h
 refine inAt_mk rfl hc fun hn => ?_
 obtain ⟨G, o, rfl, hB⟩ := hb hn
 exact ⟨G, o, rfl, bytesAt_gl hB hg (by have := hne G o c rfl hn; simpa using this)⟩
theorem inAt_apart {v x : Value} {l : List UInt8} {w : World} {R T : Nat} {fz : Nat × Nat} (h : InAt v l w) (hR : w.heap[R]? = some (.cells #[x] T fz)) (hx : ∀ n, x ≠ .int .u8 n) : ∀ G o c, v = .slice (some ⟨G, o, none⟩) l.length c → l ≠ [] → G ≠ R := by
 intro G o c e hn hG
 subst hG
 obtain ⟨a, c', e', hc, hb⟩ := inAt_form h
 rw [e'] at e
 injection e with e1
 obtain ⟨G', o', e2, hB, hj⟩ := hb hn
 rw [e2] at e1
 simp only [Option.some.injEq, Addr.mk.injEq] at e1
 obtain ⟨rfl, rfl, _⟩ := e1
 have h0 := hj 0 (List.length_pos_iff.2 hn)
 rw [blk_cell hR] at h0
 cases o' with
 | zero => simp at h0; exact hx _ h0
 | succ k => simp at h0
end Go.Proofs.YtembdkodajichaaGreatDoor
