/- Maps from terms to Bools: what they hold, look-ups, stores, ranges. -/
import Derived.Test.YtaaiaahkakkleaaGreatDoorMSpec
import Derived.Maps.Own
import Derived.Maps.OwnOps
import Derived.Maps.OwnSet
import Derived.Maps.RangeWalk
set_option linter.unusedSimpArgs false
set_option linter.unusedVariables false
namespace Go.Proofs.YtaaiaahkakkleaaGreatDoor
open Go.RowKit Go.Maps Go.WideMaps
section
variable {P : Program} {K E T : TypeId}
def RB (P : Program) (E : TypeId) : Value → Option (DataW Nat × List MemPlace) := plainElem (H := Nat) P E
theorem rb_inv (hE : P.underlying E = some .bool) {v : Value} {z : DataW Nat × List MemPlace} (h : RB P E v = some z) : ∃ x : Bool, v = .bool x ∧ z = (.lit (.bool x), []) := by
 unfold RB plainElem at h
 rw [hE] at h
 cases v <;> simp at h
 exact ⟨_, rfl, h.symm⟩
def Holds (D : DataW Nat) (f : List UInt8 → Option Bool) : Prop :=
 ∀ t, Maps.has D (.string t) = (f t).isSome ∧ ∀ x, f t = some x → ∀ zd, D.atKey (.string t) zd = .lit (.bool x)
def MapB (P : Program) (K E : TypeId) (w : World) (b m : Nat) (f : List UInt8 → Option Bool) : Prop :=
 ∃ D, w.ownsMap P K (RB P E) b m D ∧ Maps.size D = m ∧ Holds D f
theorem owns_tight {w : World} {b n : Nat} {D : DataW Nat} (h : w.ownsMap P K (RB P E) b n D) : w.ownsMap P K (RB P E) b (Maps.size D) D := by
 obtain ⟨es, clock, hb, F, _, rfl⟩ := h
 exact ⟨es, clock, hb, F, by simp [Maps.size, length_sorted], rfl⟩
theorem mapB_lt {w : World} {b m : Nat} {f : List UInt8 → Option Bool} (h : MapB P K E w b m f) : b < w.heap.size := by
 obtain ⟨D, h, _⟩ := h; exact h.lt
theorem mapB_gl {w w' : World} {b m : Nat} {f : List UInt8 → Option Bool} {rs : List Nat} (h : MapB P K E w b m f) (hg : GL rs w w') (hr : b ∉ rs) : MapB P K E w' b m f := by
 have hlt := mapB_lt h
 obtain ⟨D, ⟨es, clock, hb, F, hs, hD⟩, h1, h2⟩ := h
 exact ⟨D, ⟨es, clock, (hg.block b hlt hr).trans hb, F, hs, hD⟩, h1, h2⟩
theorem mapB_new (w : World) : MapB P K E (w.alloc (.map #[] 0)) w.heap.size 0 (fun _ => none) :=
 ⟨.map [], World.ownsMap_made _ _ _ _, rfl, fun t => ⟨rfl, fun x h => by cases h⟩⟩
theorem key_bs (hK : P.underlying K = some .string) {t : List UInt8} (hl : t.length ≤ maxLen) : keyOf P K (.string (bs t)) = some (.string t) :=
 keyOf_string_mk hK (s := bs t) hl
theorem mapB_look_ok (hK : P.underlying K = some .string) (hT : P.underlying T = some (.map K E)) (hE : P.underlying E = some .bool) {w : World} (hz : (zeroValue E).run P w = .ok (.bool false) w) {b m : Nat} {f : List UInt8 → Option Bool} (h : MapB P K E w b m f) {t : List UInt8} (hl : t.length ≤ maxLen) :
  (Instr.lookup T (.map (some b)) (.string (bs t)) true).run P w = .ok (.tuple #[.bool ((f t).getD false), .bool (f t).isSome]) w := by
 obtain ⟨D, hown, _, hf⟩ := h
 obtain ⟨v, ps, hrun, hv⟩ := hown.look_ok (string_keyed hK) hT hz (plainElem_bool hE false) (key_bs hK hl)
 obtain ⟨x, rfl, hx⟩ := rb_inv hE hv
 rw [hrun, (hf t).1]
 have hx2 : D.atKey (.string t) (.lit (.bool false)) = .lit (.bool x) := congrArg Prod.fst hx
 cases hft : f t with
 | none =>
   have h0 := Maps.atKey_of_not_has (D := D) (k := .string t) (by rw [(hf t).1, hft]; rfl) (.lit (.bool false))
   rw [h0] at hx2
   injection hx2 with hx3
   injection hx3 with hx4
   subst hx4
   rfl
 | some y =>
   rw [(hf t).2 y hft] at hx2
   injection hx2 with hx3
   injection hx3 with hx4
   subst hx4
   rfl
theorem mapB_look (hK : P.underlying K = some .string) (hT : P.underlying T = some (.map K E)) (hE : P.underlying E = some .bool) {w : World} (hz : (zeroValue E).run P w = .ok (.bool false) w) {b m : Nat} {f : List UInt8 → Option Bool} (h : MapB P K E w b m f) {t : List UInt8} (hl : t.length ≤ maxLen) :
  (Instr.lookup T (.map (some b)) (.string (bs t)) false).run P w = .ok (.bool ((f t).getD false)) w := by
 obtain ⟨D, hown, _, hf⟩ := h
 obtain ⟨v, ps, hrun, hv⟩ := hown.lookup (string_keyed hK) hT hz (plainElem_bool hE false) (key_bs hK hl)
 obtain ⟨x, rfl, hx⟩ := rb_inv hE hv
 rw [hrun]
 have hx2 : D.atKey (.string t) (.lit (.bool false)) = .lit (.bool x) := congrArg Prod.fst hx
 cases hft : f t with
 | none =>
   have h0 := Maps.atKey_of_not_has (D := D) (k := .string t) (by rw [(hf t).1, hft]; rfl) (.lit (.bool false))
   rw [h0] at hx2
   injection hx2 with hx3
   injection hx3 with hx4
   subst hx4
   rfl
 | some y =>
   rw [(hf t).2 y hft] at hx2
   injection hx2 with hx3
   injection hx3 with hx4
   subst hx4
   rfl
def putB (f : List UInt8 → Option Bool) (t : List UInt8) (x : Bool) (s : List UInt8) : Option Bool := if s = t then some x else f s
theorem mapB_store (hK : P.underlying K = some .string) (hT : P.underlying T = some (.map K E)) (hE : P.underlying E = some .bool) {w : World} {b m : Nat} {f : List UInt8 → Option Bool} (h : MapB P K E w b m f) (hm : m < maxLen) {t : List UInt8} (hl : t.length ≤ maxLen) (x : Bool) :
  ∃ w', (Instr.mapUpdate T (.map (some b)) (.string (bs t)) (.bool x)).run P w = .ok () w' ∧ MapB P K E w' b (if (f t).isSome = true then m else m + 1) (putB f t x) ∧ GL [b] w w' := by
 obtain ⟨D, hown, hs, hf⟩ := h
 have hty := hown.tidy (string_keyed hK)
 have hkl := (string_keyed hK).key (key_bs (t := t) hK hl)
 obtain ⟨w', hrun, hown', hg⟩ := hown.update (string_keyed hK) hT hm (key_bs hK hl) (plainElem_bool hE x)
 refine ⟨w', hrun, ⟨D.put (.string t) (.lit (.bool x)), ?_, ?_, ?_⟩, ⟨hg.os, hg.tape, hg.output, hg.size, fun k hk hn => hg.block k hk (by simpa using hn)⟩⟩
 · have := owns_tight hown'
   rwa [Maps.size_put hty, (hf t).1, hs] at this
 · rw [Maps.size_put hty, (hf t).1, hs]
 · intro s
   unfold putB
   by_cases e : s = t
   · subst e
     rw [if_pos rfl]
     refine ⟨by rw [Maps.has_put_same hty.isMap hkl]; rfl, fun y hy zd => ?_⟩
     injection hy with hy
     subst hy
     exact Maps.atKey_put_same hty.isMap hkl _ _
   · rw [if_neg e]
     have e2 : (Lit.string s) ≠ .string t := fun h => by injection h with h; exact e h
     refine ⟨by rw [Maps.has_put_other e2, (hf s).1], fun y hy zd => ?_⟩
     rw [Maps.atKey_put_other e2]
     exact (hf s).2 y hy zd
/-! how many there are -/
theorem nd_le {α : Type} [DecidableEq α] : ∀ (l l' : List α), l.Pairwise (fun a b => a ≠ b) → (∀ x ∈ l, x ∈ l') → l.length ≤ l'.length
 | [], _, _, _ => by simp
 | x :: r, l', h, hs => by
   obtain ⟨h1, h2⟩ := List.pairwise_cons.1 h
   have hx := hs x si_
   have := nd_le r (l'.erase x) h2 (fun y hy => (List.mem_erase_of_ne (fun e => h1 y hy e.symm)).2 (hs y (by simp [hy])))
   rw [List.length_erase_of_mem hx] at this
   have hp := List.length_pos_of_mem hx
   simp only [List.length_cons]
   omega
theorem mapB_keys (hK : P.underlying K = some .string) {w : World} {b m : Nat} {f : List UInt8 → Option Bool} (h : MapB P K E w b m f) : ∃ ks : List (List UInt8), ks.length = m ∧ ks.Pairwise (fun a b => a ≠ b) ∧ ∀ t, t ∈ ks ↔ (f t).isSome = true := by
 obtain ⟨D, hown, hs, hf⟩ := h
 obtain ⟨es, clock, hb, F, hsz, hD⟩ := hown
 have hk : ∀ p ∈ ((es.toList.map (Go.WideElems.rg P K (RB P E))).foldr DataW.insert []), ∃ t, p.1 = Lit.string t := by
  intro p hp
  obtain ⟨x, hx, rfl⟩ := List.mem_map.1 (mem_sorted.1 hp)
  obtain ⟨y, hy⟩ := F.reads x hx
  rw [Go.WideElems.rg_of hy]
  obtain ⟨s, _, e, _⟩ := string_of_keyOf hK (Go.WideElems.rd_key hy)
  exact ⟨_, e⟩
 have hd : ((es.toList.map (Go.WideElems.rg P K (RB P E))).foldr DataW.insert []).Pairwise (fun p q => p.1 ≠ q.1) := ((Go.WideShapes.sorted_perm _).pairwise_iff (fun {_ _} hne => Ne.symm hne)).2 (Maps.fit_apart (string_keyed hK) F)
 generalize ((es.toList.map (Go.WideElems.rg P K (RB P E))).foldr DataW.insert []) = L at *
 subst hD
 have hval : ∀ t, (f t).isSome = true ↔ ∃ p ∈ L, p.1 = Lit.string t := by
  intro t
  rw [← (hf t).1]
  show L.any (fun p => p.1.sameKey (.string t)) = true ↔ _
  rw [List.any_eq_true]
  constructor
  · rintro ⟨p, hp, h⟩; exact ⟨p, hp, WideAt.sameKey_eq h⟩
  · rintro ⟨p, hp, h⟩
    refine ⟨p, hp, ?_⟩
    rw [h]
    exact WideAt.sameKey_self (show WideAt.IsKeyLit (Lit.string t) from trivial)
 refine ⟨L.map (fun p => match p.1 with | .string t => t | _ => []), by rw [List.length_map]; exact hs, ?_, ?_⟩
 · rw [List.pairwise_map]
   refine hd.imp_of_mem ?_
   intro p q hp hq hne
   obtain ⟨t, et⟩ := hk p hp
   obtain ⟨u, eu⟩ := hk q hq
   rw [et, eu] at hne ⊢
   simp only
   exact fun e => hne (by rw [e])
 · intro t
   rw [hval t, List.mem_map]
   constructor
   · rintro ⟨p, hp, rfl⟩
     obtain ⟨u, eu⟩ := hk p hp
     exact ⟨p, hp, by rw [eu]⟩
   · rintro ⟨p, hp, e⟩
     exact ⟨p, hp, by rw [e]⟩
theorem mapB_le (hK : P.underlying K = some .string) {w : World} {b m : Nat} {f : List UInt8 → Option Bool} (h : MapB P K E w b m f) (U : List (List UInt8)) (hU : ∀ t, (f t).isSome = true → t ∈ U) : m ≤ U.length := by
 obtain ⟨ks, rfl, hd, hk⟩ := mapB_keys hK h
 exact nd_le ks U hd (fun x hx => hU x ((hk x).1 hx))
theorem mapB_same (hK : P.underlying K = some .string) {w w' : World} {b b' m : Nat} {f f' : List UInt8 → Option Bool} (h : MapB P K E w b m f) (h' : MapB P K E w' b' m f') (hs : ∀ t, (f t).isSome = true → (f' t).isSome = true) (t : List UInt8) (ht : (f' t).isSome = true) : (f t).isSome = true := by
 obtain ⟨ks, hl, hd, hk⟩ := mapB_keys hK h
 obtain ⟨ks', hl', hd', hk'⟩ := mapB_keys hK h'
 rcases Bool.eq_false_or_eq_true (f t).isSome with hq | hq
 · exact hq
 · exfalso
   have hnt : t ∉ ks := fun hm => by rw [(hk t).1 hm] at hq; cases hq
   have h1 := nd_le (t :: ks) ks' (List.pairwise_cons.2 ⟨fun y hy e => hnt (e ▸ hy), hd⟩) (fun x hx => by
    rcases List.mem_cons.1 hx with rfl | hx
    · exact (hk' x).2 ht
    · exact (hk' x).2 (hs x ((hk x).1 hx)))
   simp only [List.length_cons] at h1
   omega
/-! ranges -/
def RangeB (P : Program) (K E : TypeId) (w : World) (b r m : Nat) (f : List UInt8 → Option Bool) (left : List UInt8 → Bool) (cnt : Nat) : Prop :=
 ∃ D lf, w.ranges P K (RB P E) b r m D lf cnt ∧ Maps.size D = m ∧ Holds D f ∧ ∀ t, lf (.string t) = left t
theorem rangeB_gl {w w' : World} {b r m cnt : Nat} {f : List UInt8 → Option Bool} {left : List UInt8 → Bool} {rs : List Nat} (h : RangeB P K E w b r m f left cnt) (hg : GL rs w w') (h1 : b ∉ rs) (h2 : r ∉ rs) : RangeB P K E w' b r m f left cnt := by
 obtain ⟨D, lf, h, h3⟩ := h
 have l1 := h.owns.lt
 have l2 := h.lt
 obtain ⟨es, clock, since, seen, c0, hb, F, hs, hD, hr, rest⟩ := h
 exact ⟨D, lf, ⟨es, clock, since, seen, c0, (hg.block b l1 h1).trans hb, F, hs, hD, (hg.block r l2 h2).trans hr, rest⟩, h3⟩
theorem rangeB_map {w : World} {b r m cnt : Nat} {f : List UInt8 → Option Bool} {left : List UInt8 → Bool} (h : RangeB P K E w b r m f left cnt) : MapB P K E w b m f := by
 obtain ⟨D, lf, h, h1, h2, _⟩ := h
 exact ⟨D, h.owns, h1, h2⟩
theorem rangeB_lt {w : World} {b r m cnt : Nat} {f : List UInt8 → Option Bool} {left : List UInt8 → Bool} (h : RangeB P K E w b r m f left cnt) : r < w.heap.size := by
 obtain ⟨D, lf, h, _⟩ := h
 exact h.lt
theorem rangeB_left {w : World} {b r m cnt : Nat} {f : List UInt8 → Option Bool} {left : List UInt8 → Bool} (h : RangeB P K E w b r m f left cnt) : w.rangeLeft b r = cnt := by
 obtain ⟨D, lf, h, _⟩ := h
 exact h.left_eq
section
variable (w : World) {ops : Array Oper} {rest : List Oper} {o : Oper} {a : Act} {Q : Exit → Act → World → Prop}
theorem wpList_storeB (hg : o.guard = none) (m x v : Operand) (hop : o.op = Op.mapUpdate T m x v) (hK : P.underlying K = some .string) (hT : P.underlying T = some (.map K E)) (hE : P.underlying E = some .bool)
  (b n : Nat) (f : List UInt8 → Option Bool) (h : MapB P K E w b n f) (hn : n < maxLen) (t : List UInt8) (hl : t.length ≤ maxLen) (c : Bool) (hm : a.eval m = .map (some b)) (hx : a.eval x = .string (bs t)) (hv : a.eval v = .bool c)
  (hC : ∀ w', MapB P K E w' b (if (f t).isSome = true then n else n + 1) (putB f t c) → GL [b] w w' → wpList P ops Q rest (a.put o.dst undef) w') : wpList P ops Q (o :: rest) a w := by
 refine wpList_plain hg fun K' hK' => ?_
 obtain ⟨w', hrun, r1, r2⟩ := mapB_store hK hT hE h hn hl c
 unfold Oper.wp
 simp [execOp, hop, hm, hx, hv, hrun, Result.andThen]
 exact hK' _ _ (hC w' r1 r2)
theorem wpList_rangeB (hg : o.guard = none) (m : Operand) (hop : o.op = Op.range T m) (hK : P.underlying K = some .string) (hT : P.underlying T = some (.map K E))
  (b n : Nat) (f : List UInt8 → Option Bool) (h : MapB P K E w b n f) (hm : a.eval m = .map (some b))
  (hC : ∀ w', RangeB P K E w' b w.heap.size n f (fun t => (f t).isSome) n → GL [] w w' → w'.heap.size = w.heap.size + 1 → wpList P ops Q rest (a.put o.dst (.pointer (some ⟨w.heap.size, 0, none⟩))) w') : wpList P ops Q (o :: rest) a w := by
 obtain ⟨D, hown, hs, hf⟩ := h
 refine wpList_range_own w hg m T hop K E (string_keyed hK) hT (RB P E) b n D hm hown ?_
 intro w' h1 h2 h3
 rw [hs] at h1
 exact hC w' ⟨D, _, h1, hs, hf, fun t => (hf t).1⟩ ⟨h2.os, h2.tape, h2.output, h2.size, fun k hk _ => h2.block k hk si_⟩ h3
theorem wpList_nextB (hg : o.guard = none) (it : Operand) (hop : o.op = Op.next it false) (hK : P.underlying K = some .string) (hE : P.underlying E = some .bool)
  (b r n cnt : Nat) (f : List UInt8 → Option Bool) (left : List UInt8 → Bool) (h : RangeB P K E w b r n f left cnt) (hit : a.eval it = .pointer (some ⟨r, 0, none⟩))
  (hDone : cnt = 0 → (∀ t, left t = false) → wpList P ops Q rest (a.put o.dst (.tuple #[.bool false])) w)
  (hMore : ∀ (t : List UInt8) (x : Bool) (w' : World) (cnt' : Nat), t.length ≤ maxLen → left t = true → f t = some x → RangeB P K E w' b r n f (fun s => left s && s != t) cnt' → cnt' < cnt → GL [r] w w' → w'.heap.size = w.heap.size →
    (Instr.entry (.pointer (some ⟨r, 0, none⟩))).run P w' = .ok (.tuple #[.string (bs t), .bool x]) w' → wpList P ops Q rest (a.put o.dst (.tuple #[.bool true, .string (bs t), .bool x])) w') : wpList P ops Q (o :: rest) a w := by
 obtain ⟨D, lf, hr, hs, hf, hlf⟩ := h
 refine wpList_next_ranges w hg it hop K (string_keyed hK) (RB P E) Value.string Value.bool (fun key kl hk => by obtain ⟨s, e, _⟩ := string_of_keyOf hK hk; exact ⟨s, e⟩) (fun v y hy => by obtain ⟨x, e, _⟩ := rb_inv hE hy; exact ⟨x, e⟩) b r n D lf cnt hit hr ?_ ?_
 · intro h0 hl
   exact hDone h0 (fun t => by rw [← hlf t]; exact hl _)
 · intro s c kl y w' cnt' hkey hlk hv hat hrg hlt hgr hsz hen
   obtain ⟨s', e1, rfl, hsl⟩ := string_of_keyOf hK hkey
   injection e1 with e1
   subst e1
   obtain ⟨x, e2, rfl⟩ := rb_inv hE hv
   injection e2 with e2
   subst e2
   have hbs : s = bs s.data.toList := by cases s; rfl
   have hk0 := hlf s.data.toList
   rw [hlk] at hk0
   have hfs : f s.data.toList = some c := by
    have h1 := (hf s.data.toList).1
    cases hq : f s.data.toList with
    | none =>
      have h2 := hat (.lit (.bool (!c)))
      rw [Maps.atKey_of_not_has (by rw [h1, hq]; rfl)] at h2
      simp at h2
    | some z =>
      have h2 := (hf s.data.toList).2 z hq .nil
      rw [hat .nil] at h2
      injection h2 with h3
      injection h3 with h4
      rw [h4]
   have := hMore s.data.toList c w' cnt' (by rw [← ByteArray.size_data] at hsl; simpa using hsl) hk0.symm hfs ⟨D, _, hrg, hs, hf, fun t => ?_⟩ hlt ⟨hgr.os, hgr.tape, hgr.output, hgr.size, fun k hk hn => hgr.block k hk (by simpa using hn)⟩ hsz (by rw [← hbs]; exact hen)
   · rwa [← hbs] at this
   · show (lf (.string t) && !(Lit.string t).sameKey (.string s.data.toList)) = (left t && t != s.data.toList)
     rw [hlf t]
     by_cases e : t = s.data.toList
     · rw [e, WideAt.sameKey_self (show WideAt.IsKeyLit (Lit.string s.data.toList) from trivial)]; simp
     · rw [Maps.sameKey_ne (fun h => by injection h with h; exact e h)]
       simp [e]
end
end
end Go.Proofs.YtaaiaahkakkleaaGreatDoor
