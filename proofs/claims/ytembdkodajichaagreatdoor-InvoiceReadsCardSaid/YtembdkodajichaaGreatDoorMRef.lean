/- The reference's reader of numbers. The reference's reader of terms: its small functions. The reference's writer of numbers. The reference: do the parts of a term fit its op? The reference reads a term: the ways on which no parts are read. The reference reads a term: the ways that read parts. The reference reads a tuple. The reference reads a term: no such op; all ways together. The reference: right terms, and what is made of them. The reference opens a term. The reference: the public key of a term. The reference: terms side by side. -/
import Derived.Test.YtembdkodajichaaGreatDoorMSpec
import Derived.Lib.ItoaNum
import Derived.Deep.QuietTactic
import Derived.BigQuiet
import Derived.Deep.RegionLaw
import Derived.StillTailTactics
import Derived.Deep.AppendLies
import Derived.Deep.RegionHeld3
set_option maxRecDepth 100000
set_option maxHeartbeats 2000000
set_option linter.unusedSimpArgs false
set_option linter.unusedVariables false
-- RefN
namespace Go.Proofs.YtembdkodajichaaGreatDoor
open Go.RowKit
def zb2_ (at_ : Nat) : Option (Nat × Nat) → Value
 | some (n, k) => .tuple #[.int .u64 n, .int .i64 (at_ + k : Nat)]
 | none => .tuple #[.int .u64 0, .int .i64 (-1)]
theorem zpU_ {l : List UInt8} {i : Nat} (h : i < l.length) (e : UInt8) (m k : Nat) : k0_ e (l.drop i) m k =
  if l[i].toNat = e.toNat ∧ 0 < k then some (m, k + 1)
  else if l[i].toNat < 48 ∨ 57 < l[i].toNat ∨ (m = 0 ∧ 0 < k) then none
  else if (9223372036854775807 - (l[i].toNat - 48)) / 10 < m then none
  else k0_ e (l.drop (i + 1)) (m * 10 + (l[i].toNat - 48)) (k + 1) := by
 rw [List.drop_eq_getElem_cons h, k0_]
theorem zpV_ {l : List UInt8} {i : Nat} (h : l.length ≤ i) (e : UInt8) (m k : Nat) : k0_ e (l.drop i) m k = none := by
 rw [List.drop_of_length_le h, k0_]
theorem zpW_ {at_ n k : Nat} {a b : Int} (ha : a = n) (hb : b = (at_ + k : Nat)) : Ending.returned (.tuple #[.int .u64 a, .int .i64 b]) = Ending.returned (zb2_ at_ (some (n, k))) := by
 subst ha hb; rfl
theorem zpX_ (at_ : Nat) : Ending.returned (.tuple #[.int .u64 0, .int .i64 (-1)]) = Ending.returned (zb2_ at_ none) := rfl
theorem zpY_ (l : List UInt8) (at_ : Nat) (e : UInt8) (hat : at_ ≤ l.length) (hl : l.length ≤ 9000000000000000000) (w : World) :
  Calls Tryz.prog 158 #[.string (bs l), .int .i64 at_, .int .u8 e.toNat] w fun en w' => en = .returned (zb2_ at_ (num e (l.drop at_))) ∧ w = w' := by
 have HX : Hid (num e (l.drop at_) = k0_ e (l.drop (at_ + 0)) 0 0) := rfl
 go_enter Tryz.func158, Tryz.ntmps158
 go_wp2
 go_loop [8, 9] (fun n i => ∃ (k m : Nat), at_ + k ≤ l.length ∧ m ≤ 9223372036854775807 ∧ i = .int .i64 (at_ + k : Nat) ∧ n = .int .u64 m ∧ (num e (l.drop at_) = k0_ e (l.drop (at_ + k)) m k)) (fun _ i => l.length - (intOf i).toNat)
 case atStart => exact ⟨0, 0, by omega, by omega, rfl, rfl, HX⟩
 case round =>
  obtain ⟨k, m, hk, hm, rfl, rfl, hnum⟩ := hrel
  by_cases hlt : at_ + k < l.length
  · rw [zpU_ hlt] at hnum
    have hc : l[at_ + k].toNat < 256 := l[at_ + k].toNat_lt
    have HN := Lib.hid hnum
    clear hnum HX
    go_wp2
    all_goals first
     | (go_ret2
        refine ⟨?_, rfl⟩
        rw [HN.out]
        repeat' split
        all_goals first
         | (refine zpW_ ?_ ?_ <;> omega)
         | exact zpX_ _
         | (exfalso; omega))
     | (go_round
        case rel =>
         have h := HN.out
         rw [if_neg om_, if_neg om_, if_neg om_] at h
         refine ⟨k + 1, m * 10 + (l[at_ + k].toNat - 48), by omega, by omega, by go_num, ?_, by rw [h, Nat.add_assoc]⟩
         congr 1; omega
        case measure => simp [intOf]; omega)
  · rw [zpV_ om_] at hnum
    have HN := Lib.hid hnum
    clear hnum HX
    go_wp2
    go_ret2
    exact ⟨by rw [HN.out]; rfl, rfl⟩
theorem zc2_ (l : List UInt8) (a x : Int) (e : UInt8) (h0 : 0 ≤ a) (hat : a ≤ l.length) (hx : x = e.toNat) (hl : l.length ≤ 9000000000000000000) (w : World) :
  Calls Tryz.prog 158 #[.string (bs l), .int .i64 a, .int .u8 x] w fun en w' => en = .returned (zb2_ a.toNat (num e (l.drop a.toNat))) ∧ w = w' := by
 obtain ⟨i, rfl⟩ := Int.eq_ofNat_of_zero_le h0
 subst hx
 simpa using zpY_ l i e om_ hl w
end Go.Proofs.YtembdkodajichaaGreatDoor
-- RefA
namespace Go.Proofs.YtembdkodajichaaGreatDoor
open Go.RowKit
def arV : Option Nat → Int
 | some n => n
 | none => -1
theorem zeO_ (c : UInt8) (w : World) :
  Calls Tryz.prog 159 #[.int .u8 c.toNat] w fun e w' => e = .returned (.int .i64 (arV (arity c))) ∧ w = w' := by
 have H : Hid (arV (arity c) = if c.toNat = 80 ∨ c.toNat = 72 then 1 else if c.toNat = 83 ∨ c.toNat = 66 ∨ c.toNat = 88 ∨ c.toNat = 68 ∨ c.toNat = 86 ∨ c.toNat = 87 ∨ c.toNat = 75 ∨ c.toNat = 76 then 2 else -1) := by
  show arV (arity c) = _
  simp only [arity, ← UInt8.toNat_inj, UInt8.reduceToNat]
  split
  · rfl
  · split <;> rfl
 go_enter Tryz.func159, Tryz.ntmps159
 go_wp2
 all_goals
  go_ret
  refine ⟨?_, rfl⟩
  rw [H.out]
  congr 2
  repeat' split
  all_goals first | rfl | (exfalso; simp only [beq_iff_eq, beq_eq_false_iff_ne, ne_eq] at *; omega)
theorem zhh_ (c : UInt8) (w : World) :
  Calls Tryz.prog 179 #[.int .u8 c.toNat] w fun e w' => e = .returned (.bool (pubC c)) ∧ w = w' := by
 have H := Lib.hid (zgg_ c)
 go_enter Tryz.func179, Tryz.ntmps179
 go_wp2
 all_goals
  go_ret
  refine ⟨?_, rfl⟩
  rw [H.out]
  (refine congrArg (fun b : Bool => Ending.returned (.bool b)) ?_; rw [Bool.eq_iff_iff]; simp only [beq_iff_eq, beq_eq_false_iff_ne, bne_iff_ne, bne_eq_false_iff_eq, ne_eq, Bool.or_eq_true, Bool.and_eq_true, Bool.not_eq_true', decide_eq_true_eq, decide_eq_false_iff_not, Bool.or_eq_false_iff, Bool.and_eq_false_iff, eq_self, true_iff, iff_true, Bool.false_eq_true, Bool.true_eq_false, false_iff, iff_false] at *; omega)
theorem zb3_ (w : World) :
  Calls Tryz.prog 157 #[] w fun e w' => e = .returned (.agg #[.int .i64 (-1), .int .i64 0, .int .u64 0, .int .i64 0, .slice none 0 0]) ∧ Below w.heap.size w w' := by
 go_enter Tryz.func157, Tryz.ntmps157
 go_wp2
 refine bodyPost_ret (v := .agg #[.int .i64 (-1), .int .i64 0, .int .u64 0, .int .i64 0, .slice none 0 0]) (by simp [results, Tryz.results157, go_sem]) rfl ⟨rfl, ?_⟩
 exact bl_
end Go.Proofs.YtembdkodajichaaGreatDoor
-- RefB
namespace Go.Proofs.YtembdkodajichaaGreatDoor
open Go.RowKit
theorem zhi_ {P : Program} (w : World) (src dst e : TypeId) (x : Int) (hs : P.underlying src = some (.slice e)) (he : P.underlying e = some (.int .u8)) (hd : P.underlying dst = some .string)
  (h0 : 0 ≤ x) (h1 : x < 256) :
  (convert src dst (.slice (some ⟨w.heap.size, 0, none⟩) 1 1)).run P (w.alloc (.cells #[.int .u8 x] e)) = .ok (.string (bs [UInt8.ofNat x.toNat])) (w.alloc (.cells #[.int .u8 x] e)) := by
 have e1 : ((UInt8.ofNat x.toNat).toNat : Int) = x := by
  rw [UInt8.toNat_ofNat']; omega
 have h := run_convert_bytes_back (P := P) (w.alloc (.cells #[.int .u8 x] e)) src dst e ⟨w.heap.size, 0, none⟩ 1 [UInt8.ofNat x.toNat] hs he hd (by
  intro j hj
  have : j = 0 := by simpa using hj
  subst this
  simp only [List.getElem_cons_zero, e1]
  simp [go_sem])
 exact h
theorem zpZ_ (n : Nat) : ∀ (x : Int) (_ : x = n) (_ : n ≤ 18446744073709551615) (w : World),
  Calls Tryz.prog 78 #[.int .u64 x] w fun e w' => e = .returned (.string (bs (Lib.decDigits n))) ∧ Below w.heap.size w w' := by
 induction n using Nat.strongRecOn with
 | ind n ih =>
   intro x hx hn w
   subst hx
   have kc := fun (w : World) => zhi_ (P := Tryz.prog) w 47 9 5 (48 + (n : Int) % 10) Tryz.underlying47 Tryz.underlying5 Tryz.underlying9 om_ om_
   have H : Hid (Lib.decDigits n = if n < 10 then [UInt8.ofNat (48 + n)] else Lib.decDigits (n / 10) ++ [UInt8.ofNat (48 + n % 10)]) := by
    show Lib.decDigits n = _
    rw [Lib.decDigits]
    split <;> rfl
   by_cases h : n ≤ 9
   · clear ih
     go_enter Tryz.func78, Tryz.ntmps78
     go_wp2_with fail
     go_ret
     refine ⟨?_, ?_⟩
     · rw [H.out, if_pos om_]
       have : n % 10 = n := by omega
       simp [this]
     · exact bl_
   · have hlen : (Lib.decDigits (n / 10)).length ≤ 20 := zba_ _ om_
     go_enter Tryz.func78, Tryz.ntmps78
     go_wp2_with (go_at_call 78; refine (ih (n / 10) om_ _ om_ om_ _).mono ?_; rintro e w1 ⟨rfl, hb⟩)
     go_ret
     refine ⟨?_, ?_⟩
     · rw [H.out, if_neg om_]; simp
     · refine Below.trans ?_ (hb.mono si_)
       exact bl_
theorem zp0_ (x : Int) (h0 : 0 ≤ x) (h1 : x ≤ 18446744073709551615) (w : World) :
  Calls Tryz.prog 78 #[.int .u64 x] w fun e w' => e = .returned (.string (bs (Lib.decDigits x.toNat))) ∧ Below w.heap.size w w' :=
 zpZ_ x.toNat x om_ om_ w
end Go.Proofs.YtembdkodajichaaGreatDoor
-- RefC
namespace Go.Proofs.YtembdkodajichaaGreatDoor
open Go.RowKit
theorem zp1_ (l : List UInt8) (i : Nat) (hi : i < l.length) (x0 x1 x2 x3 : Int) (kv : Value) (ks : List (List UInt8)) (hl : l.length ≤ 9000000000000000000)
  (h1 : l[i].toNat ≠ 80) (h2 : l[i].toNat ≠ 88) (h3 : l[i].toNat ≠ 87) (h4 : l[i].toNat ≠ 76) (w : World) :
  Calls Tryz.prog 160 #[.string (bs l), .int .i64 i, .agg #[.int .i64 x0, .int .i64 x1, .int .u64 x2, .int .i64 x3, kv]] w fun e w' =>
   e = .returned (.bool (v1_ l[i] ks)) ∧ Below w.heap.size w w' := by
 have H : v1_ l[i] ks = true := by
  simp only [v1_, ← UInt8.toNat_inj, UInt8.reduceToNat]
  rw [if_neg h1, if_neg h2, if_neg h3, if_neg h4]
 rw [H]; clear H
 go_enter Tryz.func160, Tryz.ntmps160
 go_wp2
 go_ret
 exact ⟨rfl, bl_⟩
theorem zp2_ (l : List UInt8) (i o : Nat) (hi : i < l.length) (ho : o < l.length) (x0 x1 x2 x3 : Int) (g n cap : Nat) (k : List UInt8) (ks : List (List UInt8)) (hl : l.length ≤ 9000000000000000000)
  (h1 : l[i].toNat = 80 ∨ l[i].toNat = 76) (hk : head k = l[o]) (w : World) (hn : 1 ≤ n) (hc : w.cell? ⟨g, 0, none⟩ = some (.int .i64 o)) (hg : g < w.heap.size) :
  Calls Tryz.prog 160 #[.string (bs l), .int .i64 i, .agg #[.int .i64 x0, .int .i64 x1, .int .u64 x2, .int .i64 x3, .slice (some ⟨g, 0, none⟩) n cap]] w fun e w' =>
   e = .returned (.bool (v1_ l[i] (k :: ks))) ∧ Below w.heap.size w w' := by
 have H : Hid (v1_ l[i] (k :: ks) = if l[i].toNat = 80 then decide (l[o].toNat ≠ 86 ∧ l[o].toNat ≠ 75) else pubC l[o]) := by
  show v1_ _ _ = _
  simp only [v1_, ← UInt8.toNat_inj, UInt8.reduceToNat, List.getD_cons_zero, hk]
  rcases h1 with h | h <;> simp [h]
  rw [Bool.eq_iff_iff]; simp [← UInt8.toNat_inj]
 clear hk
 rcases h1 with h | h
 all_goals
  go_enter Tryz.func160, Tryz.ntmps160
  go_wp2_with (go_at_call 179; refine (zhh_ _ _).mono ?_; rintro e w1 ⟨rfl, rfl⟩)
  all_goals
   go_ret
   refine ⟨?_, bl_⟩
   rw [H.out]
   first | (rw [if_pos h]; (refine congrArg (fun b : Bool => Ending.returned (.bool b)) ?_; rw [Bool.eq_iff_iff]; simp only [beq_iff_eq, beq_eq_false_iff_ne, bne_iff_ne, bne_eq_false_iff_eq, ne_eq, Bool.or_eq_true, Bool.and_eq_true, Bool.not_eq_true', decide_eq_true_eq, decide_eq_false_iff_not, Bool.or_eq_false_iff, Bool.and_eq_false_iff, eq_self, true_iff, iff_true, Bool.false_eq_true, Bool.true_eq_false, false_iff, iff_false] at *; omega)) | (rw [if_neg om_]; rfl)
theorem zp3_ (l : List UInt8) (i o0 o1 o2 : Nat) (hi : i < l.length) (ho0 : o0 < o1) (ho1 : o1 < o2) (ho2 : o2 ≤ l.length) (x0 x1 x2 x3 : Int) (g n cap : Nat) (hl : l.length ≤ 9000000000000000000)
  (h1 : l[i].toNat = 88 ∨ l[i].toNat = 87) (w : World) (hn : 3 ≤ n) (hc0 : w.cell? ⟨g, 0, none⟩ = some (.int .i64 o0)) (hc1 : w.cell? ⟨g, 1, none⟩ = some (.int .i64 o1)) (hc2 : w.cell? ⟨g, 2, none⟩ = some (.int .i64 o2)) (hg : g < w.heap.size) :
  Calls Tryz.prog 160 #[.string (bs l), .int .i64 i, .agg #[.int .i64 x0, .int .i64 x1, .int .u64 x2, .int .i64 x3, .slice (some ⟨g, 0, none⟩) n cap]] w fun e w' =>
   e = .returned (.bool (v1_ l[i] [(l.drop o0).take (o1 - o0), (l.drop o1).take (o2 - o1)])) ∧ Below w.heap.size w w' := by
 have hk0 : head ((l.drop o0).take (o1 - o0)) = l[o0] := by
  rw [List.drop_eq_getElem_cons om_, show o1 - o0 = (o1 - o0 - 1) + 1 by omega]; rfl
 have hk1 : head ((l.drop o1).take (o2 - o1)) = l[o1] := by
  rw [List.drop_eq_getElem_cons om_, show o2 - o1 = (o2 - o1 - 1) + 1 by omega]; rfl
 have H : Hid (v1_ l[i] [(l.drop o0).take (o1 - o0), (l.drop o1).take (o2 - o1)] = if l[i].toNat = 88 then leB ((l.drop o0).take (o1 - o0)) ((l.drop o1).take (o2 - o1)) else pubC l[o0] && pubC l[o1]) := by
  show v1_ _ _ = _
  simp only [v1_, ← UInt8.toNat_inj, UInt8.reduceToNat, List.getD_cons_zero, List.getD_cons_succ, hk0, hk1]
  rcases h1 with h | h <;> simp [h]
 clear hk0 hk1
 rcases h1 with h | h
 · have i0 : ((0 : Nat) : Int) ≤ o0 := by omega
   have i1 : (o0 : Int) ≤ o1 := by omega
   have i2 : (o1 : Int) ≤ o2 := by omega
   have i3 : (o2 : Int) ≤ l.length := by omega
   have i4 : (o1 : Int) ≤ l.length := by omega
   go_enter Tryz.func160, Tryz.ntmps160
   go_wp2
   go_quiet (fail)
   go_wp2
   go_ret
   refine ⟨?_, bl_⟩
   rw [H.out, if_pos h]
   rfl
 · cases hp : pubC l[o0]
   all_goals
    have Hp := Lib.hid hp
    clear hp
    go_enter Tryz.func160, Tryz.ntmps160
    go_wp2_with fail
    refine (zhh_ _ _).mono ?_
    rintro e w1 ⟨rfl, rfl⟩
    rw [Hp.out]
    go_wp2_with (go_at_call 179; refine (zhh_ _ _).mono ?_; rintro e w1 ⟨rfl, rfl⟩)
    go_ret
    refine ⟨?_, bl_⟩
    rw [H.out, if_neg om_, Hp.out]
    rfl
end Go.Proofs.YtembdkodajichaaGreatDoor
-- RefD
namespace Go.Proofs.YtembdkodajichaaGreatDoor
open Go.RowKit
def q9_ (x : Sh) (a : Nat) : List Nat := if x.op.toNat = 110 ∨ x.op.toNat = 116 then [] else zaD_ (a + x.len - j8_ x.kids) x.kids
def frm (x : Sh) (a : Nat) : Nat := if x.op.toNat = 116 then a + x.len - x.n else 0
def zb4_ (a : Nat) (w : World) (o : Option Sh) (e : Ending) (w' : World) : Prop :=
 match o with
 | none => ∃ v1 v2 v3, e = .returned (.agg #[.int .i64 (-1), .int .i64 v1, .int .u64 v2, .int .i64 v3, .slice none 0 0]) ∧ Below w.heap.size w w'
 | some x => ∃ ad n cap, e = .returned (.agg #[.int .i64 (a + x.len : Nat), .int .i64 x.deep, .int .u64 x.n, .int .i64 (frm x a), .slice ad n cap]) ∧
  w'.ownsRow w.heap.size 3 1 (.slice ad n cap) (q9_ x a).length ((q9_ x a).map fun i : Nat => .int .i64 i) ∧ Below w.heap.size w w'
theorem zck_ {a : Nat} {w w' : World} {v1 v2 v3 : Int} (hb : Below w.heap.size w w') : zb4_ a w none (.returned (.agg #[.int .i64 (-1), .int .i64 v1, .int .u64 v2, .int .i64 v3, .slice none 0 0])) w' :=
 ⟨_, _, _, rfl, hb⟩
theorem zj5_ {a : Nat} {w w' : World} {x : Sh} {v0 v1 v2 v3 : Int} {kv : Value} (h0 : v0 = (a + x.len : Nat)) (h1 : v1 = x.deep) (h2 : v2 = x.n) (h3 : v3 = frm x a)
  (hk : w'.ownsRow w.heap.size 3 1 kv (q9_ x a).length ((q9_ x a).map fun i : Nat => .int .i64 i)) (hb : Below w.heap.size w w') :
  zb4_ a w (some x) (.returned (.agg #[.int .i64 v0, .int .i64 v1, .int .u64 v2, .int .i64 v3, kv])) w' := by
 subst h0 h1 h2 h3
 have hs : ∃ ad n cap, kv = .slice ad n cap := by
  rcases hk.2 with ⟨h, _⟩ | ⟨g, cap, _, h, _⟩ <;> exact ⟨_, _, _, h⟩
 obtain ⟨ad, n, cap, rfl⟩ := hs
 exact ⟨ad, n, cap, rfl, hk, hb⟩
theorem zj6_ {a : Nat} {w w' : World} {x : Sh} {v0 v1 v2 v3 : Int} (hx : x.op.toNat = 110 ∨ x.op.toNat = 116) (h0 : v0 = (a + x.len : Nat)) (h1 : v1 = x.deep) (h2 : v2 = x.n) (h3 : v3 = frm x a)
  (hb : Below w.heap.size w w') :
  zb4_ a w (some x) (.returned (.agg #[.int .i64 v0, .int .i64 v1, .int .u64 v2, .int .i64 v3, .slice none 0 0])) w' := by
 have e : q9_ x a = [] := by simp [q9_, hx]
 exact zj5_ h0 h1 h2 h3 (by rw [e]; exact ⟨rfl, Or.inl ⟨rfl, rfl⟩⟩) hb
theorem zj7_ (l : List UInt8) (a d : Int) (h0 : 0 ≤ a) (h1 : a ≤ l.length) (hl : l.length ≤ 9000000000000000000) (hd : d = 0 ∨ a = l.length) (w : World) :
  Calls Tryz.prog 130 #[.string (bs l), .int .i64 a, .int .i64 d] w (zb4_ a.toNat w none) := by
 by_cases h : a = l.length
 · subst h
   go_enter Tryz.func130, Tryz.ntmps130
   go_wp2_with (go_at_call 157; refine (zb3_ _).mono ?_; rintro e w1 ⟨rfl, hb⟩; (obtain ⟨hcw, hfw⟩ := bcell hb; have hz := hb.size; try simp at hz))
   exact bodyPost_ret (v := .agg #[.int .i64 (-1), .int .i64 0, .int .u64 0, .int .i64 0, .slice none 0 0]) (by simp [results, Tryz.results130, go_sem, hcw, hz]) rfl (zck_ bl_)
 · obtain rfl : d = 0 := by omega
   clear hd
   have h2 : a < l.length := by omega
   clear h h1
   go_enter Tryz.func130, Tryz.ntmps130
   go_wp2_with (go_at_call 157; refine (zb3_ _).mono ?_; rintro e w1 ⟨rfl, hb⟩; (obtain ⟨hcw, hfw⟩ := bcell hb; have hz := hb.size; try simp at hz))
   exact bodyPost_ret (v := .agg #[.int .i64 (-1), .int .i64 0, .int .u64 0, .int .i64 0, .slice none 0 0]) (by simp [results, Tryz.results130, go_sem, hcw, hz]) rfl (zck_ bl_)
def zeP_ (c : UInt8) (k : Nat) : Option (List (List UInt8) × Nat × Nat) → Option Sh
 | none => none
 | some (ks, dp, len) => if v1_ c ks then some ⟨c, 1 + k + len, dp + 1, 0, [], ks⟩ else none
theorem zeQ_ {l : List UInt8} {i : Nat} (h : i < l.length) (d : Nat) : rd (d + 1) (l.drop i) =
  if l[i].toNat = 110 then (num 59 (l.drop (i + 1))).map fun (n, k) => ⟨l[i], 1 + k, 1, n, [], []⟩
  else if l[i].toNat = 116 then
   match num 58 (l.drop (i + 1)) with
   | none => none
   | some (n, k) => if 4096 < n ∨ l.length - (i + 1) - k < n then none else some ⟨l[i], 1 + k + n, 1, n, (l.drop (i + 1 + k)).take n, []⟩
  else
   match cnt l[i] (l.drop (i + 1)) with
   | none => none
   | some (m, k) => zeP_ l[i] k (w6_ (rd d) m (l.drop (i + 1 + k))) := by
 rw [List.drop_eq_getElem_cons h, rd]
 simp only [← UInt8.toNat_inj, UInt8.reduceToNat, List.length_drop, List.drop_drop]
 rfl
theorem zp4_ (l : List UInt8) (i d : Nat) (hi : i < l.length) (hl : l.length ≤ 9000000000000000000) (hc : l[i].toNat = 110) (D : Int) (hD : 1 ≤ D) (w : World) :
  Calls Tryz.prog 130 #[.string (bs l), .int .i64 i, .int .i64 D] w (zb4_ i w (rd (d + 1) (l.drop i))) := by
 have hD0 : (D == 0) = false := by simp; omega
 rw [zeQ_ hi, if_pos hc]
 have et : ((i : Int) + 1).toNat = i + 1 := by omega
 have Ht := Lib.hid et
 clear et
 cases hn : num 59 (l.drop (i + 1)) with
 | none =>
   have Hn := Lib.hid hn
   clear hn
   go_enter Tryz.func130, Tryz.ntmps130
   go_wp2_with (go_at_call 158; refine (zc2_ _ _ _ 59 om_ om_ rfl hl _).mono ?_; rintro e w1 ⟨rfl, rfl⟩; rw [Ht.out, Hn.out]; simp only [zb2_])
   exact bodyPost_ret (v := .agg #[.int .i64 (-1), .int .i64 1, .int .u64 0, .int .i64 0, .slice none 0 0]) (by simp [results, Tryz.results130, go_sem]) rfl (zck_ bl_)
 | some x =>
   obtain ⟨n, k⟩ := x
   have Hn := Lib.hid hn
   clear hn
   go_enter Tryz.func130, Tryz.ntmps130
   go_wp2_with (go_at_call 158; refine (zc2_ _ _ _ 59 om_ om_ rfl hl _).mono ?_; rintro e w1 ⟨rfl, rfl⟩; rw [Ht.out, Hn.out]; simp only [zb2_])
   exact bodyPost_ret (v := .agg #[.int .i64 ((i : Int) + 1 + k), .int .i64 1, .int .u64 n, .int .i64 0, .slice none 0 0]) (by simp [results, Tryz.results130, go_sem]) rfl
    (zj6_ (.inl hc) so_ rfl rfl (by simp [frm, hc]) bl_)
theorem zp5_ (l : List UInt8) (i d : Nat) (hi : i < l.length) (hl : l.length ≤ 9000000000000000000) (hc : l[i].toNat = 116) (D : Int) (hD : 1 ≤ D) (w : World) :
  Calls Tryz.prog 130 #[.string (bs l), .int .i64 i, .int .i64 D] w (zb4_ i w (rd (d + 1) (l.drop i))) := by
 have hD0 : (D == 0) = false := by simp; omega
 rw [zeQ_ hi, if_neg om_, if_pos hc]
 have et : ((i : Int) + 1).toNat = i + 1 := by omega
 have Ht := Lib.hid et
 clear et
 cases hn : num 58 (l.drop (i + 1)) with
 | none =>
   have Hn := Lib.hid hn
   clear hn
   go_enter Tryz.func130, Tryz.ntmps130
   go_wp2_with (first | (go_at_call 158; refine (zc2_ _ _ _ 58 om_ om_ rfl hl _).mono ?_; rintro e w1 ⟨rfl, rfl⟩; rw [Ht.out, Hn.out]; simp only [zb2_]) | (go_at_call 157; refine (zb3_ _).mono ?_; rintro e w1 ⟨rfl, hb⟩; (obtain ⟨hcw, hfw⟩ := bcell hb; have hz := hb.size; try simp at hz)))
   exact bodyPost_ret (v := .agg #[.int .i64 (-1), .int .i64 0, .int .u64 0, .int .i64 0, .slice none 0 0]) (by simp [results, Tryz.results130, go_sem, hcw, hz]) rfl (zck_ bl_)
 | some x =>
   obtain ⟨n, k⟩ := x
   obtain ⟨hk2, hkl, hnb⟩ := zcl_ hn
   rw [List.length_drop] at hkl
   have hkl' : (i : Int) + 1 + k ≤ l.length := by omega
   have Hn := Lib.hid hn
   clear hn hkl
   simp only []
   by_cases hbad : 4096 < n ∨ l.length - (i + 1) - k < n
   · rw [if_pos hbad]
     by_cases h4 : 4096 < n
     · clear hbad
       go_enter Tryz.func130, Tryz.ntmps130
       go_wp2_with (first | (go_at_call 158; refine (zc2_ _ _ _ 58 om_ om_ rfl hl _).mono ?_; rintro e w1 ⟨rfl, rfl⟩; rw [Ht.out, Hn.out]; simp only [zb2_]) | (go_at_call 157; refine (zb3_ _).mono ?_; rintro e w1 ⟨rfl, hb⟩; (obtain ⟨hcw, hfw⟩ := bcell hb; have hz := hb.size; try simp at hz)))
       exact bodyPost_ret (v := .agg #[.int .i64 (-1), .int .i64 0, .int .u64 0, .int .i64 0, .slice none 0 0]) (by simp [results, Tryz.results130, go_sem, hcw, hz]) rfl (zck_ bl_)
     · have h5 : (l.length : Int) - ((i : Int) + 1 + k) < n := by omega
       clear hbad
       go_enter Tryz.func130, Tryz.ntmps130
       go_wp2_with (first | (go_at_call 158; refine (zc2_ _ _ _ 58 om_ om_ rfl hl _).mono ?_; rintro e w1 ⟨rfl, rfl⟩; rw [Ht.out, Hn.out]; simp only [zb2_]) | (go_at_call 157; refine (zb3_ _).mono ?_; rintro e w1 ⟨rfl, hb⟩; (obtain ⟨hcw, hfw⟩ := bcell hb; have hz := hb.size; try simp at hz)))
       exact bodyPost_ret (v := .agg #[.int .i64 (-1), .int .i64 0, .int .u64 0, .int .i64 0, .slice none 0 0]) (by simp [results, Tryz.results130, go_sem, hcw, hz]) rfl (zck_ bl_)
   · rw [if_neg hbad]
     have h4 : n ≤ 4096 := by omega
     have h5 : (n : Int) ≤ (l.length : Int) - ((i : Int) + 1 + k) := by omega
     clear hbad
     go_enter Tryz.func130, Tryz.ntmps130
     go_wp2_with (first | (go_at_call 158; refine (zc2_ _ _ _ 58 om_ om_ rfl hl _).mono ?_; rintro e w1 ⟨rfl, rfl⟩; rw [Ht.out, Hn.out]; simp only [zb2_]) | (go_at_call 157; refine (zb3_ _).mono ?_; rintro e w1 ⟨rfl, hb⟩; (obtain ⟨hcw, hfw⟩ := bcell hb; have hz := hb.size; try simp at hz)))
     exact bodyPost_ret (v := .agg #[.int .i64 ((i : Int) + 1 + k + n), .int .i64 1, .int .u64 n, .int .i64 ((i : Int) + 1 + k), .slice none 0 0]) (by simp [results, Tryz.results130, go_sem]) rfl
      (zj6_ (.inr hc) so_ rfl rfl (by simp [frm, hc]; omega) bl_)
end Go.Proofs.YtembdkodajichaaGreatDoor
-- RefE
namespace Go.Proofs.YtembdkodajichaaGreatDoor
open Go.RowKit
theorem Tryz.infoInt : (Tryz.prog.info? 3).map (fun i => (i.zero, i.size, i.bytes)) = some (some (.int .i64 0), 1, 8) := by kernel_rfl
def zhj_ (d : Nat) (l : List UInt8) : Prop := ∀ (a D : Int) (w : World), 0 ≤ a → a ≤ l.length → D = d →
 Calls Tryz.prog 130 #[.string (bs l), .int .i64 a, .int .i64 D] w (zb4_ a.toNat w (rd d (l.drop a.toNat)))
theorem zp6_ {l k : List UInt8} {b : Nat} (h : k = (l.drop b).take k.length) (h0 : 0 < k.length) (hb : b < l.length) : head k = l[b] := by
 refine (congrArg head h).trans ?_
 rw [List.drop_eq_getElem_cons hb, show k.length = (k.length - 1) + 1 by omega]
 rfl
theorem zfN_ (l : List UInt8) (i b m : Nat) (hi : i < l.length) (ks : List (List UInt8)) (hm : ks.length = m) (hcnt : ∃ r k, cnt l[i] r = some (m, k)) (hcut : zcv_ l b ks) (x0 x1 x2 x3 : Int) (kv : Value) (hl : l.length ≤ 9000000000000000000)
  (h0 : l[i].toNat ≠ 110) (h1 : l[i].toNat ≠ 116) (w : World) (base : Nat) (hown : w.ownsRow base 3 1 kv (m + 1) ((zaD_ b ks).map fun i : Nat => .int .i64 i)) :
  Calls Tryz.prog 160 #[.string (bs l), .int .i64 i, .agg #[.int .i64 x0, .int .i64 x1, .int .u64 x2, .int .i64 x3, kv]] w fun e w' =>
   e = .returned (.bool (v1_ l[i] ks)) ∧ Below w.heap.size w w' := by
 by_cases hA : l[i].toNat = 80 ∨ l[i].toNat = 76 ∨ l[i].toNat = 88 ∨ l[i].toNat = 87
 · have hm1 : (l[i].toNat = 80 → m = 1) ∧ (l[i].toNat ≠ 80 → m = 2) := by
    obtain ⟨r, k, hcnt⟩ := hcnt
    simp only [cnt, arity, ← UInt8.toNat_inj, UInt8.reduceToNat] at hcnt
    rw [if_neg om_] at hcnt
    split at hcnt
    · simp at hcnt; omega
    · rw [if_pos om_] at hcnt; simp at hcnt; omega
   obtain ⟨g, cap, rfl, hg, hgw, hcap, hcap2, hcell⟩ := zbv_ hown om_
   match ks, hm with
   | [], hm => simp at hm; omega
   | k0 :: ks', hm =>
     obtain ⟨hk0, hk1, hk2, hk3⟩ := hcut
     have hk0' : 0 < k0.length := List.length_pos_iff.2 hk2
     have c0 := hcell 0 (.int .i64 b) (by simp [zaD_])
     by_cases hB : l[i].toNat = 80 ∨ l[i].toNat = 76
     · refine zp2_ l i b hi om_ x0 x1 x2 x3 g (m + 1) cap k0 ks' hl hB ?_ w om_ c0 hgw
       exact zp6_ hk0 hk0' om_
     · match ks', hm with
       | [], hm => simp at hm; omega
       | [k1], hm =>
         obtain ⟨hj0, hj1, hj2, _⟩ := hk3
         have hj0' : 0 < k1.length := List.length_pos_iff.2 hj2
         have c1 := hcell 1 (.int .i64 (b + k0.length : Nat)) (by simp [zaD_])
         have c2 := hcell 2 (.int .i64 (b + k0.length + k1.length : Nat)) (by simp [zaD_])
         have h := zp3_ l i b (b + k0.length) (b + k0.length + k1.length) hi om_ om_ om_ x0 x1 x2 x3 g (m + 1) cap hl om_ w om_ c0 c1 c2 hgw
         rw [Nat.add_sub_cancel_left, Nat.add_sub_cancel_left, ← hk0, ← hj0] at h
         exact h
       | _ :: _ :: _, hm => simp at hm; omega
 · exact zp1_ l i hi x0 x1 x2 x3 kv ks hl om_ om_ om_ om_ w
def RLoop (l : List UInt8) (d m b : Nat) (w : World) (nx iv : Value) (wr : World) : Prop :=
 ∃ (k c dp : Nat) (ks : List (List UInt8)) (kv : Value), k ≤ m ∧ iv = .int .i64 k ∧ nx = .int .i64 (b + c : Nat) ∧ b + c ≤ l.length ∧ dp ≤ d ∧ ks.length = k ∧ j8_ ks = c ∧ zcv_ l b ks ∧
  KProg (rd d) l b m k c dp ks ∧
  wr.heap[w.heap.size]? = some (.cells #[.int .i64 0, .int .i64 0, .int .u64 0, .int .i64 0, .slice none 0 0] 164 (0, 0)) ∧
  wr.heap[w.heap.size + 1 + 1]? = some (.cells #[.int .i64 0, .int .i64 (dp + 1 : Nat), .int .u64 0, .int .i64 0, kv] 164 (0, 0)) ∧
  wr.ownsRow (w.heap.size + 1) 3 1 kv (k + 1) ((zaD_ b ks).map fun i : Nat => .int .i64 i) ∧ Below w.heap.size w wr
theorem zj8_ (l : List UInt8) (d m b : Nat) (hb : b ≤ l.length) (w : World) (x : Int) (hx : x = b) :
  RLoop l d m b w (.int .i64 x) (.int .i64 0) (((w.alloc (.cells #[.int .i64 0, .int .i64 0, .int .u64 0, .int .i64 0, .slice none 0 0] 164)).alloc (.cells #[.int .i64 x] 3)).alloc
   (.cells #[.int .i64 0, .int .i64 1, .int .u64 0, .int .i64 0, .slice (some ⟨w.heap.size + 1, 0, none⟩) 1 1] 164)) := by
 subst hx
 refine ⟨0, 0, 0, [], .slice (some ⟨w.heap.size + 1, 0, none⟩) 1 1, by omega, rfl, rfl, hb, by omega, rfl, rfl, trivial, zhP_ _ _ _ _, ?_, ?_, ?_, ?_⟩
 · exact x3_ (x3_ (y8_ _ _) _) _
 · have := y8_ ((w.alloc (.cells #[.int .i64 0, .int .i64 0, .int .u64 0, .int .i64 0, .slice none 0 0] 164)).alloc (.cells #[.int .i64 b] 3)) (.cells #[.int .i64 0, .int .i64 1, .int .u64 0, .int .i64 0, .slice (some ⟨w.heap.size + 1, 0, none⟩) 1 1] 164)
   simpa using this
 · refine ⟨rfl, Or.inr ⟨w.heap.size + 1, 1, #[.int .i64 b], rfl, Nat.le_refl _, ?_, by omega, by unfold maxLen; omega, rfl, rfl⟩⟩
   have := x3_ (y8_ (w.alloc (.cells #[.int .i64 0, .int .i64 0, .int .u64 0, .int .i64 0, .slice none 0 0] 164)) (.cells #[.int .i64 b] 3)) (.cells #[.int .i64 0, .int .i64 1, .int .u64 0, .int .i64 0, .slice (some ⟨w.heap.size + 1, 0, none⟩) 1 1] 164)
   simpa using this
 · exact bl_
theorem zj9_ {l : List UInt8} {d m b kk c dp : Nat} {ks : List (List UInt8)} {kv v' : Value} {w wr w1 w4 : World} {x : Sh} {X : Obj} {nx : Int}
  (hlt : kk < m) (hdp : dp ≤ d) (hks : ks.length = kk) (hsum : j8_ ks = c) (hcut : zcv_ l b ks) (hprog : KProg (rd d) l b m kk c dp ks) (hr : rd d (l.drop (b + c)) = some x)
  (hz0 : w1.heap[w.heap.size]? = some (.cells #[.int .i64 0, .int .i64 0, .int .u64 0, .int .i64 0, .slice none 0 0] 164 (0, 0)))
  (hz2 : w1.heap[w.heap.size + 1 + 1]? = some (.cells #[.int .i64 0, .int .i64 (dp + 1 : Nat), .int .u64 0, .int .i64 0, kv] 164 (0, 0)))
  (hw1 : w1.ownsRow (w.heap.size + 1) 3 1 kv (kk + 1) ((zaD_ b ks).map fun i : Nat => .int .i64 i))
  (hbel : Below w.heap.size w wr) (hb1 : Below wr.heap.size wr w1) (hnx : nx = (b : Int) + c + x.len)
  (hown : w4.ownsRow (w.heap.size + 1) 3 1 v' (kk + 1 + 1) (((zaD_ b ks).map fun i : Nat => Value.int .i64 i) ++ [.int .i64 nx]))
  (hgr : ((((w1.setCell ⟨w.heap.size + 1 + 1, 1, none⟩ (.int .i64 (if dp < x.deep then (x.deep : Int) + 1 else (dp : Int) + 1))).alloc X).alloc (.cells #[.int .i64 nx] 3))).grownBy w4 kv.ownBlock) :
  RLoop l d m b w (.int .i64 nx) (.int .i64 ((kk : Int) + 1)) (w4.setCell ⟨w.heap.size + 1 + 1, 4, none⟩ v') := by
 obtain ⟨hx1, hx2, hx3, hx4, _⟩ := za6_ _ _ _ hr
 rw [List.length_drop] at hx2
 have hlen : ((l.drop (b + c)).take x.len).length = x.len := by rw [List.length_take, List.length_drop]; omega
 have e1 : j8_ (ks ++ [(l.drop (b + c)).take x.len]) = c + x.len := by rw [zlc_, hsum, hlen]
 have hne : some (w.heap.size + 1 + 1) ≠ kv.ownBlock := v7_ hw1 hz2 de_
 have hlt0 := z4_ hz0
 have hlt2 := z4_ hz2
 have hbl : ∀ g, kv.ownBlock = some g → w.heap.size + 1 ≤ g := by
  intro g hg
  rcases hw1.2 with ⟨rfl, _⟩ | ⟨g', cap, cur, rfl, h, _⟩
  · simp [Value.ownBlock] at hg
  · simp [Value.ownBlock] at hg; omega
 have h0 : w4.heap[w.heap.size]? = _ := zaR_ (x3_ (x3_ (v0_ hz0 (p := ⟨w.heap.size + 1 + 1, 1, none⟩) so_ _) X) _) hgr (by intro e; have := hbl _ e.symm; omega)
 have h2 : w4.heap[w.heap.size + 1 + 1]? = _ := zaR_ (x3_ (x3_ (z3_ hz2 1 _) X) _) hgr hne
 have hv' : some (w.heap.size + 1 + 1) ≠ v'.ownBlock := v7_ hown h2 de_
 refine ⟨kk + 1, c + x.len, max dp x.deep, ks ++ [(l.drop (b + c)).take x.len], v', by omega, by simp, by rw [hnx]; congr 1; omega, by omega, Nat.max_le.2 ⟨hdp, hx4⟩, by simp [hks], e1, ?_, zhQ_ hprog hlt hr, v0_ h0 so_ _, ?_, ?_, ?_⟩
 · refine zld_ ks b hcut ?_ ?_ ?_
   · rw [hsum, hlen]
   · rw [hsum, hlen]; omega
   · intro e; rw [e] at hlen; simp at hlen; omega
 · have h3 := z3_ h2 4 v'
   rw [h3]
   have : (if dp < x.deep then (x.deep : Int) + 1 else (dp : Int) + 1) = ((max dp x.deep + 1 : Nat) : Int) := by
    split <;> omega
   simp [this]
 · have h5 := v3_ hown (p := ⟨w.heap.size + 1 + 1, 4, none⟩) hv' v'
   rw [zlb_, hsum, hlen, List.map_append]
   rw [hnx] at h5
   simpa using h5
 · refine Below.setCell ?_ so_ _
   refine Below.grown ?_ hgr so_ (fun g hg => by have := hbl g hg; omega)
   have hs := hbel.size
   exact bl_
theorem zka_ {l : List UInt8} {i d m b k c dp : Nat} {hi : i < l.length} {ks : List (List UInt8)} {kv : Value} {w w6 : World} {nx dq : Int}
  (hb : b = i + 1 + k) (h110 : l[i].toNat ≠ 110) (h116 : l[i].toNat ≠ 116) (hsum : j8_ ks = c) (hlen : ks.length = m) (hfit : v1_ l[i] ks = true)
  (hprog : w6_ (rd d) m (l.drop b) = some (ks, dp, c)) (hown : w6.ownsRow (w.heap.size + 1) 3 1 kv (m + 1) ((zaD_ b ks).map fun i : Nat => .int .i64 i))
  (hbel : Below w.heap.size w w6) (hnx : nx = (b : Int) + c) (hdq : dq = (dp : Int) + 1) :
  zb4_ i w (zeP_ l[i] k (w6_ (rd d) m (l.drop b))) (.returned (.agg #[.int .i64 nx, .int .i64 dq, .int .u64 0, .int .i64 0, kv])) w6 := by
 rw [hprog]
 simp only [zeP_, hfit, if_true]
 have e : q9_ (⟨l[i], 1 + k + c, dp + 1, 0, [], ks⟩ : Sh) i = zaD_ b ks := by
  simp only [q9_]
  rw [if_neg om_, hsum]
  congr 1; omega
 refine zj5_ (by rw [hnx]; simp; omega) (by rw [hdq]; simp) rfl (by simp [frm, h116]) ?_ hbel
 rw [e, zf9_, hlen]
 exact zdv_ hown om_
theorem zkb_ {l : List UInt8} {i d m b k c dp : Nat} {hi : i < l.length} {ks : List (List UInt8)} {w w6 : World}
  (hfit : v1_ l[i] ks = false) (hprog : w6_ (rd d) m (l.drop b) = some (ks, dp, c)) (hbel : Below w.heap.size w w6) :
  zb4_ i w (zeP_ l[i] k (w6_ (rd d) m (l.drop b))) (.returned (.agg #[.int .i64 (-1), .int .i64 0, .int .u64 0, .int .i64 0, .slice none 0 0])) w6 := by
 rw [hprog]
 simp only [zeP_, hfit]
 exact zck_ hbel
theorem zp7_ (l : List UInt8) (i d m k : Nat) (hi : i < l.length) (hl : l.length ≤ 9000000000000000000) (hc0 : l[i].toNat ≠ 110) (hc1 : l[i].toNat ≠ 116)
  (h84 : l[i].toNat ≠ 84) (hd : d ≤ 64) (ih : zhj_ d l) (hcnt : cnt l[i] (l.drop (i + 1)) = some (m, k)) (D : Int) (hD : D = d + 1) (w : World) :
  Calls Tryz.prog 130 #[.string (bs l), .int .i64 i, .int .i64 D] w (zb4_ i w (rd (d + 1) (l.drop i))) := by
 have hD0 : (D == 0) = false := by simp; omega
 have hD1 : 1 ≤ D ∧ D ≤ 65 := by omega
 have HD := Lib.hid hD
 clear hD
 rw [zeQ_ hi, if_neg hc0, if_neg hc1, hcnt]
 simp only []
 have et : ((i : Int) + 1).toNat = i + 1 := by omega
 have Ht := Lib.hid et
 clear et
 have HC := Lib.hid hcnt
 have hm32 := (zdx_ hcnt).1
 obtain ⟨i0, hi0, hi1, hi2, hi3⟩ := info_parts Tryz.infoInt
 have hkb := (zdx_ hcnt).2
 rw [List.length_drop] at hkb
 obtain ⟨b, hb⟩ : ∃ b, b = i + 1 + k := ⟨_, rfl⟩
 rw [← hb]
 have hbl : b ≤ l.length := by omega
 clear hkb
 obtain ⟨ha, rfl⟩ : arity l[i] = some m ∧ k = 0 := by
  simp only [cnt, ← UInt8.toNat_inj, UInt8.reduceToNat] at hcnt
  rw [if_neg h84] at hcnt
  cases ha : arity l[i] with
  | none => simp [ha] at hcnt
  | some v => simp [ha] at hcnt; simp [hcnt]
 clear hcnt
 have HA : Hid (arV (arity l[i]) = m) := by show arV (arity l[i]) = m; rw [ha]; rfl
 clear ha
 have HB := Lib.hid hb
 clear hb
 have hbi : ((i : Int) + 1) = b := by have := HB.out; omega
 have HBI := Lib.hid hbi
 clear hbi
 go_enter Tryz.func130, Tryz.ntmps130
 go_wp2_with (go_at_call 159; refine (zeO_ _ _).mono ?_; rintro e w1 ⟨rfl, rfl⟩; rw [HA.out])
 rw [HBI.out]
 go_loopw [12, 16] (fun nx iv wr => RLoop l d m b w nx iv wr) (fun _ iv _ => m - (intOf iv).toNat)
 case atStart => exact zj8_ l d m b hbl w _ rfl
 case round =>
  obtain ⟨kk, c, dp, ks, kv, hk, rfl, rfl, hbc, hdp, hksl, hsum, hcut, hprog, hz0, hz2, hown, hbel⟩ := hrel
  have Hks := Lib.hid hksl
  have Hsum := Lib.hid hsum
  have Hcut := Lib.hid hcut
  have Hprog := Lib.hid hprog
  have Hz0 := Lib.hid hz0
  have Hz2 := Lib.hid hz2
  clear hksl hsum hcut hprog hz0 hz2
  have hsw := hbel.size
  have hsw2 := z4_ Hz2.out
  by_cases hlt : kk < m
  · cases hr : rd d (l.drop (b + c)) with
    | none =>
      have HR := Lib.hid hr
      clear hr
      go_wp2_with (first | (go_at_call 130; refine (ih _ _ _ om_ om_ (by have := HD.out; omega)).mono ?_; rintro e w1 hp; rw [show ((b : Int) + c).toNat = b + c by omega, HR.out] at hp; obtain ⟨v1, v2, v3, rfl, hb1⟩ := hp; have Hy0 := Lib.hid (x0_ Hz0.out hb1 (z4_ Hz0.out)); have hsz := z4_ Hy0.out) | (go_at_call 157; refine (zb3_ _).mono ?_; rintro e w3 ⟨rfl, hb3⟩; have Hx0 := Lib.hid (x0_ (x3_ Hy0.out _) hb3 so_); have f0 := z8_ Hx0.out; have f1 := z0_ Hx0.out))
      exact bodyPost_ret (v := .agg #[.int .i64 (-1), .int .i64 0, .int .u64 0, .int .i64 0, .slice none 0 0]) (by simp [results, Tryz.results130, go_sem, f0, f1]) rfl (by
       rw [zga_ Hprog.out hlt HR.out]
       exact zck_ bl_)
    | some x =>
      obtain ⟨hx1, hx2, hx3, hx4, _⟩ := za6_ _ _ _ hr
      rw [List.length_drop] at hx2
      have HR := Lib.hid hr
      clear hr
      go_wp2_with (first | (go_at_call 130; refine (ih _ _ _ om_ om_ (by have := HD.out; omega)).mono ?_; rintro e w1 hp; rw [show ((b : Int) + c).toNat = b + c by omega, HR.out] at hp; obtain ⟨xa, xn, xc, rfl, _, hb1⟩ := hp; have Hy0 := Lib.hid (x0_ Hz0.out hb1 (z4_ Hz0.out)); have hsz := z4_ Hy0.out; have Hy2 := Lib.hid (x0_ Hz2.out hb1 (z4_ Hz2.out)); have hsz2 := z4_ Hy2.out; have hown1 := zdu_ hown hb1 rfl; have hne1 := v7_ hown1 Hy2.out de_; have f0 := z8_ Hy2.out; have f1 := z0_ Hy2.out) | (at_builtin; go_must (refine wpList_append_own _ rfl _ _ 162 rfl (w.heap.size + 1) 3 i0 (.int .i64 0) 1 8 Tryz.underlying162 hi0 hi1 hi2 hi3 rfl de_ _ _ _ rfl (zbT_ (zbT_ (v3_ hown1 hne1 _) _) _) ⟨w1.heap.size + 1, 0, none⟩ 1 1 [.int .i64 ((b : Int) + c + x.len)] rfl rfl ?c1 ?c2 ?c3 ?c4 ?c5 ?_; (case c1 => (exact zf5_ si_)); (case c2 => exact one1 rfl); (case c3 => (unfold maxLen; omega)); (case c4 => (omega)); (case c5 => (first | (simp; done) | (simp; omega))); (intro v' w4 hown4 hgr4 _); (obtain ⟨ad4, n4, cp4, hv4⟩ := za4_ hown4); (subst hv4); (have Hq := Lib.hid (zhN_ Hy2.out hgr4 hne1)); (have f2 := z8_ Hq.out); (have f3 := z0_ Hq.out))))
      all_goals
       go_roundw
       case rel => exact zj9_ hlt hdp Hks.out Hsum.out Hcut.out Hprog.out HR.out Hy0.out Hy2.out hown1 hbel hb1 rfl hown4 hgr4
       case measure => simp [intOf]; omega
  · obtain rfl : kk = m := by omega
    have Hp := Lib.hid (zgb_ Hprog.out)
    have hne : some (w.heap.size + 1 + 1) ≠ kv.ownBlock := v7_ hown Hz2.out de_
    have hne0 : some w.heap.size ≠ kv.ownBlock := v7_ hown Hz0.out de_
    have Hy0 := Lib.hid (v0_ Hz0.out (p := ⟨w.heap.size + 1 + 1, 0, none⟩) so_ (.int .i64 ((b : Int) + c)))
    have Hy2 := Lib.hid (z3_ Hz2.out 0 (.int .i64 ((b : Int) + c)))
    have f0 := z8_ Hz2.out
    have f1 := z0_ Hz2.out
    have hcnt2 : Hid (∃ r k, cnt l[i] r = some (kk, k)) := ⟨_, _, HC.out⟩
    obtain ⟨ad, kn, kc, hkv⟩ := za4_ hown
    subst hkv
    cases hf : v1_ l[i] ks with
    | false =>
      have HF := Lib.hid hf
      clear hf
      go_wp2_with (first | (go_at_call 160; go_must (refine (zfN_ l i b kk hi ks Hks.out hcnt2.out Hcut.out _ _ _ _ _ hl hc0 hc1 _ (w.heap.size + 1) (v3_ hown (p := ⟨w.heap.size + 1 + 1, 0, none⟩) hne _)).mono ?_); rintro e w5 ⟨rfl, hb5⟩; rw [HF.out]; have Hv0 := Lib.hid (x0_ Hy0.out hb5 (z4_ Hy0.out)); have hsz := z4_ Hv0.out) | (go_at_call 157; refine (zb3_ _).mono ?_; rintro e w6 ⟨rfl, hb6⟩; have Hx0 := Lib.hid (x0_ Hv0.out hb6 hsz); have f4 := z8_ Hx0.out; have f5 := z0_ Hx0.out))
      exact bodyPost_ret (v := .agg #[.int .i64 (-1), .int .i64 0, .int .u64 0, .int .i64 0, .slice none 0 0]) (by simp [results, Tryz.results130, go_sem, f4, f5]) rfl (zkb_ HF.out Hp.out bl_)
    | true =>
      have HF := Lib.hid hf
      clear hf
      go_wp2_with (go_at_call 160; go_must (refine (zfN_ l i b kk hi ks Hks.out hcnt2.out Hcut.out _ _ _ _ _ hl hc0 hc1 _ (w.heap.size + 1) (v3_ hown (p := ⟨w.heap.size + 1 + 1, 0, none⟩) hne _)).mono ?_); rintro e w5 ⟨rfl, hb5⟩; rw [HF.out]; have Hv0 := Lib.hid (x0_ Hy0.out hb5 (z4_ Hy0.out)); have f4 := z8_ Hv0.out; have f5 := z0_ Hv0.out; have Hv2 := Lib.hid (x0_ Hy2.out hb5 (z4_ Hy2.out)); have f6 := z8_ Hv2.out; have f7 := z0_ Hv2.out; have hown5 := zdu_ (v3_ hown (p := ⟨w.heap.size + 1 + 1, 0, none⟩) hne _) hb5 rfl)
      refine bodyPost_ret (v := .agg #[.int .i64 ((b : Int) + c), .int .i64 ((dp : Int) + 1), .int .u64 0, .int .i64 0, .slice ad kn kc]) (by simp [results, Tryz.results130, go_sem, f4, f5]) rfl ?_
      refine zka_ HB.out hc0 hc1 Hsum.out Hks.out HF.out Hp.out ?_ ?_ rfl rfl
      · exact v3_ (v3_ (v3_ (v3_ (v3_ hown5 hne0 _) hne0 _) hne0 _) hne0 _) hne0 _
      · exact bl_
end Go.Proofs.YtembdkodajichaaGreatDoor
-- RefF
namespace Go.Proofs.YtembdkodajichaaGreatDoor
open Go.RowKit
theorem zp8_ (l : List UInt8) (i d m k : Nat) (hi : i < l.length) (hl : l.length ≤ 9000000000000000000) (hc0 : l[i].toNat ≠ 110) (hc1 : l[i].toNat ≠ 116)
  (h84 : l[i].toNat = 84) (hd : d ≤ 64) (ih : zhj_ d l) (hcnt : cnt l[i] (l.drop (i + 1)) = some (m, k)) (D : Int) (hD : D = d + 1) (w : World) :
  Calls Tryz.prog 130 #[.string (bs l), .int .i64 i, .int .i64 D] w (zb4_ i w (rd (d + 1) (l.drop i))) := by
 have hD0 : (D == 0) = false := by simp; omega
 have hD1 : 1 ≤ D ∧ D ≤ 65 := by omega
 have HD := Lib.hid hD
 clear hD
 rw [zeQ_ hi, if_neg hc0, if_neg hc1, hcnt]
 simp only []
 have et : ((i : Int) + 1).toNat = i + 1 := by omega
 have Ht := Lib.hid et
 clear et
 have HC := Lib.hid hcnt
 have hm32 := (zdx_ hcnt).1
 obtain ⟨i0, hi0, hi1, hi2, hi3⟩ := info_parts Tryz.infoInt
 have hkb := (zdx_ hcnt).2
 rw [List.length_drop] at hkb
 obtain ⟨b, hb⟩ : ∃ b, b = i + 1 + k := ⟨_, rfl⟩
 rw [← hb]
 have hbl : b ≤ l.length := by omega
 clear hkb
 have hnum : num 58 (l.drop (i + 1)) = some (m, k) := by
  simp only [cnt, ← UInt8.toNat_inj, UInt8.reduceToNat] at hcnt
  rw [if_pos h84] at hcnt
  cases hn : num 58 (l.drop (i + 1)) with
  | none => simp [hn] at hcnt
  | some v =>
    obtain ⟨n, k'⟩ := v
    simp only [hn] at hcnt
    split at hcnt
    · simp at hcnt
    · simpa using hcnt
 clear hcnt
 have HA : Hid (arV (arity l[i]) = -1) := by
  show arV (arity l[i]) = -1
  have : arity l[i] = none := by
   simp only [arity, ← UInt8.toNat_inj, UInt8.reduceToNat]
   rw [if_neg om_, if_neg om_]
  rw [this]; rfl
 have hb84 : (((l[i].toNat : Nat) : Int) == 84) = true := by simp [h84]
 clear h84
 have Hn := Lib.hid hnum
 clear hnum
 have HB := Lib.hid hb
 have hbi : ((i : Int) + 1 + k) = b := by omega
 clear hb
 have HBI := Lib.hid hbi
 clear hbi
 go_enter Tryz.func130, Tryz.ntmps130
 go_wp2_with (first | (go_at_call 159; refine (zeO_ _ _).mono ?_; rintro e w1 ⟨rfl, rfl⟩; rw [HA.out]) | (go_at_call 158; refine (zc2_ _ _ _ 58 om_ om_ rfl hl _).mono ?_; rintro e w1 ⟨rfl, rfl⟩; rw [Ht.out, Hn.out]; simp only [zb2_]; rw [show ((i + 1 + k : Nat) : Int) = b from by have := HB.out; omega]))
 go_loopw [12, 16] (fun nx iv wr => RLoop l d m b w nx iv wr) (fun _ iv _ => m - (intOf iv).toNat)
 case atStart => exact zj8_ l d m b hbl w _ rfl
 case round =>
  obtain ⟨kk, c, dp, ks, kv, hk, rfl, rfl, hbc, hdp, hksl, hsum, hcut, hprog, hz0, hz2, hown, hbel⟩ := hrel
  have Hks := Lib.hid hksl
  have Hsum := Lib.hid hsum
  have Hcut := Lib.hid hcut
  have Hprog := Lib.hid hprog
  have Hz0 := Lib.hid hz0
  have Hz2 := Lib.hid hz2
  clear hksl hsum hcut hprog hz0 hz2
  have hsw := hbel.size
  have hsw2 := z4_ Hz2.out
  by_cases hlt : kk < m
  · cases hr : rd d (l.drop (b + c)) with
    | none =>
      have HR := Lib.hid hr
      clear hr
      go_wp2_with (first | (go_at_call 130; refine (ih _ _ _ om_ om_ (by have := HD.out; omega)).mono ?_; rintro e w1 hp; rw [show ((b : Int) + c).toNat = b + c by omega, HR.out] at hp; obtain ⟨v1, v2, v3, rfl, hb1⟩ := hp; have Hy0 := Lib.hid (x0_ Hz0.out hb1 (z4_ Hz0.out)); have hsz := z4_ Hy0.out) | (go_at_call 157; refine (zb3_ _).mono ?_; rintro e w3 ⟨rfl, hb3⟩; have Hx0 := Lib.hid (x0_ (x3_ Hy0.out _) hb3 so_); have f0 := z8_ Hx0.out; have f1 := z0_ Hx0.out))
      exact bodyPost_ret (v := .agg #[.int .i64 (-1), .int .i64 0, .int .u64 0, .int .i64 0, .slice none 0 0]) (by simp [results, Tryz.results130, go_sem, f0, f1]) rfl (by
       rw [zga_ Hprog.out hlt HR.out]
       exact zck_ bl_)
    | some x =>
      obtain ⟨hx1, hx2, hx3, hx4, _⟩ := za6_ _ _ _ hr
      rw [List.length_drop] at hx2
      have HR := Lib.hid hr
      clear hr
      go_wp2_with (first | (go_at_call 130; refine (ih _ _ _ om_ om_ (by have := HD.out; omega)).mono ?_; rintro e w1 hp; rw [show ((b : Int) + c).toNat = b + c by omega, HR.out] at hp; obtain ⟨xa, xn, xc, rfl, _, hb1⟩ := hp; have Hy0 := Lib.hid (x0_ Hz0.out hb1 (z4_ Hz0.out)); have hsz := z4_ Hy0.out; have Hy2 := Lib.hid (x0_ Hz2.out hb1 (z4_ Hz2.out)); have hsz2 := z4_ Hy2.out; have hown1 := zdu_ hown hb1 rfl; have hne1 := v7_ hown1 Hy2.out de_; have f0 := z8_ Hy2.out; have f1 := z0_ Hy2.out) | (at_builtin; go_must (refine wpList_append_own _ rfl _ _ 162 rfl (w.heap.size + 1) 3 i0 (.int .i64 0) 1 8 Tryz.underlying162 hi0 hi1 hi2 hi3 rfl de_ _ _ _ rfl (zbT_ (zbT_ (v3_ hown1 hne1 _) _) _) ⟨w1.heap.size + 1, 0, none⟩ 1 1 [.int .i64 ((b : Int) + c + x.len)] rfl rfl ?c1 ?c2 ?c3 ?c4 ?c5 ?_; (case c1 => (exact zf5_ si_)); (case c2 => exact one1 rfl); (case c3 => (unfold maxLen; omega)); (case c4 => (omega)); (case c5 => (first | (simp; done) | (simp; omega))); (intro v' w4 hown4 hgr4 _); (obtain ⟨ad4, n4, cp4, hv4⟩ := za4_ hown4); (subst hv4); (have Hq := Lib.hid (zhN_ Hy2.out hgr4 hne1)); (have f2 := z8_ Hq.out); (have f3 := z0_ Hq.out))))
      all_goals
       go_roundw
       case rel => exact zj9_ hlt hdp Hks.out Hsum.out Hcut.out Hprog.out HR.out Hy0.out Hy2.out hown1 hbel hb1 rfl hown4 hgr4
       case measure => simp [intOf]; omega
  · obtain rfl : kk = m := by omega
    have Hp := Lib.hid (zgb_ Hprog.out)
    have hne : some (w.heap.size + 1 + 1) ≠ kv.ownBlock := v7_ hown Hz2.out de_
    have hne0 : some w.heap.size ≠ kv.ownBlock := v7_ hown Hz0.out de_
    have Hy0 := Lib.hid (v0_ Hz0.out (p := ⟨w.heap.size + 1 + 1, 0, none⟩) so_ (.int .i64 ((b : Int) + c)))
    have Hy2 := Lib.hid (z3_ Hz2.out 0 (.int .i64 ((b : Int) + c)))
    have f0 := z8_ Hz2.out
    have f1 := z0_ Hz2.out
    have hcnt2 : Hid (∃ r k, cnt l[i] r = some (kk, k)) := ⟨_, _, HC.out⟩
    obtain ⟨ad, kn, kc, hkv⟩ := za4_ hown
    subst hkv
    cases hf : v1_ l[i] ks with
    | false =>
      have HF := Lib.hid hf
      clear hf
      go_wp2_with (first | (go_at_call 160; go_must (refine (zfN_ l i b kk hi ks Hks.out hcnt2.out Hcut.out _ _ _ _ _ hl hc0 hc1 _ (w.heap.size + 1) (v3_ hown (p := ⟨w.heap.size + 1 + 1, 0, none⟩) hne _)).mono ?_); rintro e w5 ⟨rfl, hb5⟩; rw [HF.out]; have Hv0 := Lib.hid (x0_ Hy0.out hb5 (z4_ Hy0.out)); have hsz := z4_ Hv0.out) | (go_at_call 157; refine (zb3_ _).mono ?_; rintro e w6 ⟨rfl, hb6⟩; have Hx0 := Lib.hid (x0_ Hv0.out hb6 hsz); have f4 := z8_ Hx0.out; have f5 := z0_ Hx0.out))
      exact bodyPost_ret (v := .agg #[.int .i64 (-1), .int .i64 0, .int .u64 0, .int .i64 0, .slice none 0 0]) (by simp [results, Tryz.results130, go_sem, f4, f5]) rfl (zkb_ HF.out Hp.out bl_)
    | true =>
      have HF := Lib.hid hf
      clear hf
      go_wp2_with (go_at_call 160; go_must (refine (zfN_ l i b kk hi ks Hks.out hcnt2.out Hcut.out _ _ _ _ _ hl hc0 hc1 _ (w.heap.size + 1) (v3_ hown (p := ⟨w.heap.size + 1 + 1, 0, none⟩) hne _)).mono ?_); rintro e w5 ⟨rfl, hb5⟩; rw [HF.out]; have Hv0 := Lib.hid (x0_ Hy0.out hb5 (z4_ Hy0.out)); have f4 := z8_ Hv0.out; have f5 := z0_ Hv0.out; have Hv2 := Lib.hid (x0_ Hy2.out hb5 (z4_ Hy2.out)); have f6 := z8_ Hv2.out; have f7 := z0_ Hv2.out; have hown5 := zdu_ (v3_ hown (p := ⟨w.heap.size + 1 + 1, 0, none⟩) hne _) hb5 rfl)
      refine bodyPost_ret (v := .agg #[.int .i64 ((b : Int) + c), .int .i64 ((dp : Int) + 1), .int .u64 0, .int .i64 0, .slice ad kn kc]) (by simp [results, Tryz.results130, go_sem, f4, f5]) rfl ?_
      refine zka_ HB.out hc0 hc1 Hsum.out Hks.out HF.out Hp.out ?_ ?_ rfl rfl
      · exact v3_ (v3_ (v3_ (v3_ (v3_ hown5 hne0 _) hne0 _) hne0 _) hne0 _) hne0 _
      · exact bl_
end Go.Proofs.YtembdkodajichaaGreatDoor
-- RefG
namespace Go.Proofs.YtembdkodajichaaGreatDoor
open Go.RowKit
theorem zp9_ (l : List UInt8) (i : Nat) (hi : i < l.length) (hl : l.length ≤ 9000000000000000000) (hc0 : l[i].toNat ≠ 110) (hc1 : l[i].toNat ≠ 116)
  (h84 : l[i].toNat ≠ 84) (ha : arity l[i] = none) (D : Int) (hD1 : 1 ≤ D ∧ D ≤ 65) (w : World) :
  Calls Tryz.prog 130 #[.string (bs l), .int .i64 i, .int .i64 D] w (zb4_ i w none) := by
 have hD0 : (D == 0) = false := by simp; omega
 have HA : Hid (arV (arity l[i]) = -1) := by show arV (arity l[i]) = -1; rw [ha]; rfl
 clear ha
 go_enter Tryz.func130, Tryz.ntmps130
 go_wp2_with (first | (go_at_call 159; refine (zeO_ _ _).mono ?_; rintro e w1 ⟨rfl, rfl⟩; rw [HA.out]) | (go_at_call 157; refine (zb3_ _).mono ?_; rintro e w1 ⟨rfl, hb⟩; (obtain ⟨hcw, hfw⟩ := bcell hb; have hz := hb.size; try simp at hz)))
 exact bodyPost_ret (v := .agg #[.int .i64 (-1), .int .i64 0, .int .u64 0, .int .i64 0, .slice none 0 0]) (by simp [results, Tryz.results130, go_sem, hcw, hz]) rfl (zck_ bl_)
theorem zqa_ (l : List UInt8) (i : Nat) (hi : i < l.length) (hl : l.length ≤ 9000000000000000000) (h84 : l[i].toNat = 84)
  (hn : num 58 (l.drop (i + 1)) = none ∨ ∃ n k, num 58 (l.drop (i + 1)) = some (n, k) ∧ 32 < n) (D : Int) (hD1 : 1 ≤ D ∧ D ≤ 65) (w : World) :
  Calls Tryz.prog 130 #[.string (bs l), .int .i64 i, .int .i64 D] w (zb4_ i w none) := by
 have hD0 : (D == 0) = false := by simp; omega
 have HA : Hid (arV (arity l[i]) = -1) := by
  show arV (arity l[i]) = -1
  have : arity l[i] = none := by
   simp only [arity, ← UInt8.toNat_inj, UInt8.reduceToNat]
   rw [if_neg om_, if_neg om_]
  rw [this]; rfl
 have et : ((i : Int) + 1).toNat = i + 1 := by omega
 have Ht := Lib.hid et
 clear et
 have hb84 : (((l[i].toNat : Nat) : Int) == 84) = true := by simp [h84]
 have hb110 : (((l[i].toNat : Nat) : Int) == 110) = false := by simp [h84]
 have hb116 : (((l[i].toNat : Nat) : Int) == 116) = false := by simp [h84]
 clear h84
 rcases hn with hn | ⟨n, k, hn, h32⟩
 · have Hn := Lib.hid hn
   clear hn
   go_enter Tryz.func130, Tryz.ntmps130
   go_wp2_with (first | (go_at_call 159; refine (zeO_ _ _).mono ?_; rintro e w1 ⟨rfl, rfl⟩; rw [HA.out]) | (go_at_call 158; refine (zc2_ _ _ _ 58 om_ om_ rfl hl _).mono ?_; rintro e w1 ⟨rfl, rfl⟩; rw [Ht.out, Hn.out]; simp only [zb2_]) | (go_at_call 157; refine (zb3_ _).mono ?_; rintro e w1 ⟨rfl, hb⟩; (obtain ⟨hcw, hfw⟩ := bcell hb; have hz := hb.size; try simp at hz)))
   exact bodyPost_ret (v := .agg #[.int .i64 (-1), .int .i64 0, .int .u64 0, .int .i64 0, .slice none 0 0]) (by simp [results, Tryz.results130, go_sem, hcw, hz]) rfl (zck_ bl_)
 · obtain ⟨hk2, hkl, hnb⟩ := zcl_ hn
   rw [List.length_drop] at hkl
   have hkl' : (i : Int) + 1 + k ≤ l.length := by omega
   have Hn := Lib.hid hn
   clear hn hkl
   go_enter Tryz.func130, Tryz.ntmps130
   go_wp2_with (first | (go_at_call 159; refine (zeO_ _ _).mono ?_; rintro e w1 ⟨rfl, rfl⟩; rw [HA.out]) | (go_at_call 158; refine (zc2_ _ _ _ 58 om_ om_ rfl hl _).mono ?_; rintro e w1 ⟨rfl, rfl⟩; rw [Ht.out, Hn.out]; simp only [zb2_]) | (go_at_call 157; refine (zb3_ _).mono ?_; rintro e w1 ⟨rfl, hb⟩; (obtain ⟨hcw, hfw⟩ := bcell hb; have hz := hb.size; try simp at hz)))
   exact bodyPost_ret (v := .agg #[.int .i64 (-1), .int .i64 0, .int .u64 0, .int .i64 0, .slice none 0 0]) (by simp [results, Tryz.results130, go_sem, hcw, hz]) rfl (zck_ bl_)
theorem zeR_ (l : List UInt8) (hl : l.length ≤ 9000000000000000000) (d : Nat) : d ≤ 64 → zhj_ d l := by
 induction d with
 | zero =>
   intro _ a D w h0 h1 hD
   have := zj7_ l a D h0 h1 hl (.inl om_) w
   simpa only [rd] using this
 | succ d ih =>
   intro hd a D w h0 h1 hD
   obtain ⟨i, rfl⟩ := Int.eq_ofNat_of_zero_le h0
   rw [Int.toNat_natCast]
   by_cases hi : i < l.length
   · by_cases hc0 : l[i].toNat = 110
     · exact zp4_ l i d hi hl hc0 D om_ w
     · by_cases hc1 : l[i].toNat = 116
       · exact zp5_ l i d hi hl hc1 D om_ w
       · cases hcnt : cnt l[i] (l.drop (i + 1)) with
         | some x =>
           obtain ⟨m, k⟩ := x
           by_cases h84 : l[i].toNat = 84
           · exact zp8_ l i d m k hi hl hc0 hc1 h84 om_ (ih om_) hcnt D om_ w
           · exact zp7_ l i d m k hi hl hc0 hc1 h84 om_ (ih om_) hcnt D om_ w
         | none =>
           rw [zeQ_ hi, if_neg hc0, if_neg hc1, hcnt]
           simp only [cnt, ← UInt8.toNat_inj, UInt8.reduceToNat] at hcnt
           by_cases h84 : l[i].toNat = 84
           · rw [if_pos h84] at hcnt
             refine zqa_ l i hi hl h84 ?_ D om_ w
             cases hn : num 58 (l.drop (i + 1)) with
             | none => exact .inl rfl
             | some y =>
               obtain ⟨n, k⟩ := y
               simp only [hn] at hcnt
               split at hcnt
               · exact .inr ⟨n, k, rfl, ‹_›⟩
               · simp at hcnt
           · rw [if_neg h84] at hcnt
             refine zp9_ l i hi hl hc0 hc1 h84 ?_ D om_ w
             cases ha : arity l[i] with
             | none => rfl
             | some v => simp [ha] at hcnt
   · have hl1 : l.length = i := by omega
     have := zj7_ l i D om_ h1 hl (.inr om_) w
     rw [List.drop_of_length_le om_]
     simpa only [rd, Int.toNat_natCast] using this
end Go.Proofs.YtembdkodajichaaGreatDoor
-- RefH
namespace Go.Proofs.YtembdkodajichaaGreatDoor
open Go.RowKit
theorem zkc_ (a b c d : Int) (e : Value) (w : World) : (Instr.field 164 (.agg #[.int .i64 a, .int .i64 b, .int .u64 c, .int .i64 d, e]) 0).run Tryz.prog w = .ok (.int .i64 a) w := by kernel_rfl
theorem zfO_ (l : List UInt8) (hl : l.length ≤ 9000000000000000000) (w : World) :
  Calls Tryz.prog 129 #[.string (bs l)] w fun e w' => e = .returned (.bool (right l)) ∧ Below w.heap.size w w' := by
 by_cases h : l.length ≤ 16384
 · cases hr : rd 64 l with
   | none =>
     have H : Hid (right l = false) := by show right l = false; simp [right, rt, h, hr]
     have kf := zkc_
     have HR := Lib.hid hr
     clear hr
     go_enter Tryz.func129, Tryz.ntmps129
     go_wp2_with (go_at_call 130; refine (zeR_ l hl 64 om_ _ _ _ om_ om_ rfl).mono ?_; rintro e w1 hp; rw [show (0 : Int).toNat = 0 from rfl, List.drop_zero, HR.out] at hp; obtain ⟨v1, v2, v3, rfl, hb1⟩ := hp)
     go_ret
     exact ⟨by rw [H.out]; first | rfl | (refine congrArg (fun b : Bool => Ending.returned (.bool b)) ?_; rw [Bool.eq_iff_iff]; simp only [beq_iff_eq, beq_eq_false_iff_ne, bne_iff_ne, bne_eq_false_iff_eq, ne_eq, Bool.or_eq_true, Bool.and_eq_true, Bool.not_eq_true', decide_eq_true_eq, decide_eq_false_iff_not, Bool.or_eq_false_iff, Bool.and_eq_false_iff, eq_self, true_iff, iff_true, Bool.false_eq_true, Bool.true_eq_false, false_iff, iff_false] at *; omega), bl_⟩
   | some x =>
     have H : Hid (right l = decide (x.len = l.length)) := by
      show right l = _
      simp only [right, rt, h, hr, if_true]
      split
      · simp [*]
      · simp [*]
     have kf := zkc_
     have HR := Lib.hid hr
     clear hr
     go_enter Tryz.func129, Tryz.ntmps129
     go_wp2_with (go_at_call 130; refine (zeR_ l hl 64 om_ _ _ _ om_ om_ rfl).mono ?_; rintro e w1 hp; rw [show (0 : Int).toNat = 0 from rfl, List.drop_zero, HR.out] at hp; obtain ⟨xa, xn, xc, rfl, _, hb1⟩ := hp)
     go_ret
     exact ⟨by rw [H.out]; first | rfl | (refine congrArg (fun b : Bool => Ending.returned (.bool b)) ?_; rw [Bool.eq_iff_iff]; simp only [beq_iff_eq, beq_eq_false_iff_ne, bne_iff_ne, bne_eq_false_iff_eq, ne_eq, Bool.or_eq_true, Bool.and_eq_true, Bool.not_eq_true', decide_eq_true_eq, decide_eq_false_iff_not, Bool.or_eq_false_iff, Bool.and_eq_false_iff, eq_self, true_iff, iff_true, Bool.false_eq_true, Bool.true_eq_false, false_iff, iff_false] at *; omega), bl_⟩
 · have H : Hid (right l = false) := by show right l = false; simp [right, rt, h]
   go_enter Tryz.func129, Tryz.ntmps129
   go_wp2_with fail
   go_ret
   exact ⟨by rw [H.out]; first | rfl | (refine congrArg (fun b : Bool => Ending.returned (.bool b)) ?_; rw [Bool.eq_iff_iff]; simp only [beq_iff_eq, beq_eq_false_iff_ne, bne_iff_ne, bne_eq_false_iff_eq, ne_eq, Bool.or_eq_true, Bool.and_eq_true, Bool.not_eq_true', decide_eq_true_eq, decide_eq_false_iff_not, Bool.or_eq_false_iff, Bool.and_eq_false_iff, eq_self, true_iff, iff_true, Bool.false_eq_true, Bool.true_eq_false, false_iff, iff_false] at *; omega), bl_⟩
theorem zqb_ (l : List UInt8) (hl : l.length ≤ 9000000000000000000) (w : World) :
  Calls Tryz.prog 41 #[.string (bs l)] w fun e w' => e = .returned (.tuple #[.string (bs (za7_ l).1), .int .i64 (za7_ l).2]) ∧ Below w.heap.size w w' := by
 by_cases h : 4096 < l.length
 · have H : Hid (za7_ l = ([], 3)) := by show za7_ l = _; simp [za7_, h]
   go_enter Tryz.func41, Tryz.ntmps41
   go_wp2_with fail
   go_ret2
   exact ⟨by rw [H.out]; rfl, bl_⟩
 · have H : Hid (za7_ l = (116 :: (Lib.decDigits l.length ++ 58 :: l), 0)) := by show za7_ l = _; simp [za7_, h]
   have hd := zba_ l.length om_
   go_enter Tryz.func41, Tryz.ntmps41
   go_wp2_with (go_at_call 78; refine (zp0_ _ om_ om_ _).mono ?_; rintro e w1 ⟨rfl, hb1⟩; rw [Int.toNat_natCast])
   go_ret2
   refine ⟨?_, bl_⟩
   rw [H.out]
   simp
end Go.Proofs.YtembdkodajichaaGreatDoor
-- RefI
namespace Go.Proofs.YtembdkodajichaaGreatDoor
open Go.RowKit
theorem zqc_ {l : List UInt8} {x : Sh} (hrd : rd 64 l = some x) (k : Nat) (hk : k + 1 < (q9_ x 0).length) : k < x.kids.length ∧
  ∃ a e : Nat, (q9_ x 0)[k]? = some a ∧ (q9_ x 0)[k + 1]? = some e ∧ a ≤ e ∧ e ≤ l.length ∧ x.kids[k]? = some ((l.drop a).take (e - a)) := by
 obtain ⟨_, _, q3⟩ := zdb_ hrd
 by_cases h : x.op.toNat = 110 ∨ x.op.toNat = 116
 · simp [q9_, h] at hk
 · have e : q9_ x 0 = zaD_ (x.len - j8_ x.kids) x.kids := by simp [q9_, h]
   rw [e] at hk ⊢
   rw [zf9_] at hk
   obtain ⟨_, hc, _⟩ := q3 om_ om_
   exact ⟨by omega, zhS_ _ _ k hc om_⟩
theorem zqd_ {l : List UInt8} {x : Sh} (hrd : rd 64 l = some x) : x.kids.length ≤ 32 := by
 obtain ⟨q1, q2, q3⟩ := zdb_ hrd
 by_cases h : x.op.toNat = 110
 · rw [(q1 h).2.1]; simp
 · by_cases h2 : x.op.toNat = 116
   · rw [(q2 h2).1]; simp
   · exact (q3 h h2).2.2.2.2
theorem zhk_ {l : List UInt8} {x : Sh} (hrd : rd 64 l = some x) (k : Nat) (hk : k ≤ x.kids.length) (hn : ¬ k + 1 < (q9_ x 0).length) : k = x.kids.length := by
 obtain ⟨q1, q2, _⟩ := zdb_ hrd
 by_cases h : x.op.toNat = 110 ∨ x.op.toNat = 116
 · have : x.kids = [] := by
    rcases h with h | h
    · exact (q1 h).2.1
    · exact (q2 h).1
   rw [this] at hk ⊢
   simpa using hk
 · have e : q9_ x 0 = zaD_ (x.len - j8_ x.kids) x.kids := by simp [q9_, h]
   rw [e, zf9_] at hn
   omega
def OLoop (x : Sh) (w : World) (X P : Nat) (q0 q1 q2 q3 : Value) (sl : Value) (iv : Value) (wr : World) : Prop :=
 ∃ (k b2 : Nat) (kv : Value) (C N : Int) (T : List UInt8), C = x.op.toNat ∧ N = q6_ x ∧ T = x.text ∧ iv = .int .i64 ((k : Int) + 1) ∧ k ≤ x.kids.length ∧
  wr.heap[w.heap.size]? = some (.cells #[.int .u8 0, .int .i64 0, .string (bs []), .slice none 0 0] 98 (0, 0)) ∧
  wr.heap[X]? = some (.cells #[q0, q1, q2, q3, sl] 164 (0, 0)) ∧
  wr.heap[P]? = some (.cells #[.int .u8 C, .int .i64 N, .string (bs T), kv] 98 (0, 0)) ∧
  wr.ownsRow b2 3 1 sl (q9_ x 0).length ((q9_ x 0).map fun i : Nat => .int .i64 i) ∧
  wr.ownsRow w.heap.size 29 1 kv k ((x.kids.take k).map fun s => .string (bs s)) ∧ Below w.heap.size w wr
theorem zhl_ {x : Sh} {w w1 w2 : World} {q0 q1 q2 q3 sl : Value} {C N : Int} {T : List UInt8} (hC : C = x.op.toNat) (hN : N = q6_ x) (hT : T = x.text)
  (hz : w1.heap[w.heap.size]? = some (.cells #[.int .u8 0, .int .i64 0, .string (bs []), .slice none 0 0] 98 (0, 0)))
  (hb1 : Below w.heap.size w w1) (hb2 : Below w1.heap.size w1 w2) (hown : w2.ownsRow w1.heap.size 3 1 sl (q9_ x 0).length ((q9_ x 0).map fun i : Nat => .int .i64 i)) :
  OLoop x w w2.heap.size (w2.heap.size + 1) q0 q1 q2 q3 sl (.int .i64 1) ((w2.alloc (.cells #[q0, q1, q2, q3, sl] 164)).alloc (.cells #[.int .u8 C, .int .i64 N, .string (bs T), .slice none 0 0] 98)) := by
 refine ⟨0, w1.heap.size, .slice none 0 0, C, N, T, hC, hN, hT, rfl, by omega, ?_, ?_, ?_, zbT_ (zbT_ hown _) _, ⟨rfl, Or.inl ⟨rfl, rfl⟩⟩, ?_⟩
 · exact x3_ (x3_ (x0_ hz hb2 (z4_ hz)) _) _
 · exact x3_ (y8_ _ _) _
 · have := y8_ (w2.alloc (.cells #[q0, q1, q2, q3, sl] 164)) (.cells #[.int .u8 C, .int .i64 N, .string (bs T), .slice none 0 0] 98)
   simpa using this
 · have := hb1.size
   exact bl_
theorem zhm_ {x : Sh} {w wr w4 : World} {X P k b2 gg cap4 : Nat} {q0 q1 q2 q3 sl kv : Value} {C N : Int} {T el : List UInt8} (hC : C = x.op.toNat) (hN : N = q6_ x) (hT : T = x.text)
  (hkl : k < x.kids.length) (hkk : x.kids[k]? = some el)
  (hR : wr.heap[w.heap.size]? = some (.cells #[.int .u8 0, .int .i64 0, .string (bs []), .slice none 0 0] 98 (0, 0)))
  (hX : wr.heap[X]? = some (.cells #[q0, q1, q2, q3, sl] 164 (0, 0)))
  (hP : wr.heap[P]? = some (.cells #[.int .u8 C, .int .i64 N, .string (bs T), kv] 98 (0, 0))) (hPw : w.heap.size < P)
  (hO : wr.ownsRow b2 3 1 sl (q9_ x 0).length ((q9_ x 0).map fun i : Nat => .int .i64 i))
  (hown : wr.ownsRow w.heap.size 29 1 kv k ((x.kids.take k).map fun s => .string (bs s))) (hbel : Below w.heap.size w wr)
  (hown4 : w4.ownsRow w.heap.size 29 1 (.slice (some ⟨gg, 0, none⟩) (k + 1) cap4) (k + 1) (((x.kids.take k).map fun s => Value.string (bs s)) ++ [.string (bs el)]))
  (hgr : ((wr.alloc (.cells #[.string (bs el)] 29)).drew).grownBy w4 kv.ownBlock) :
  OLoop x w X P q0 q1 q2 q3 sl (.int .i64 ((k : Int) + 1 + 1)) (w4.setCell ⟨P, 3, none⟩ (.slice (some ⟨gg, 0, none⟩) (k + 1) cap4)) := by
 have hneP := v7_ hown hP de_
 have hneX := v7_ hown hX de_
 have hneR := v7_ hown hR de_
 have hPR : P ≠ w.heap.size := by omega
 have hPX : X ≠ P := by
  intro e; subst e; rw [hX] at hP; simp at hP
 have hR4 : w4.heap[w.heap.size]? = _ := zaR_ (w := (wr.alloc _).drew) (x3_ hR _) hgr hneR
 have hX4 : w4.heap[X]? = _ := zaR_ (w := (wr.alloc _).drew) (x3_ hX _) hgr hneX
 have hP4 : w4.heap[P]? = _ := zaR_ (w := (wr.alloc _).drew) (x3_ hP _) hgr hneP
 have hO4 : w4.ownsRow b2 3 1 sl (q9_ x 0).length ((q9_ x 0).map fun i : Nat => .int .i64 i) := by
  refine zef_ hO fun g y _ hg he => zaR_ (w := (wr.alloc _).drew) (x3_ hg _) hgr ?_
  rcases zk6_ hown hO de_ with h | h
  · rw [he]; exact h.symm
  · rw [h]; simp
 refine ⟨k + 1, b2, .slice (some ⟨gg, 0, none⟩) (k + 1) cap4, C, N, T, hC, hN, hT, by simp, by omega, v0_ hR4 (by simpa using Ne.symm hPR) _, v0_ hX4 (by simpa using hPX) _, ?_, ?_, ?_, ?_⟩
 · rw [z3_ hP4 3]; rfl
 · refine v3_ hO4 ?_ _
   have := v7_ hO4 hP4 de_
   simpa using this
 · have h5 := v3_ hown4 (p := ⟨P, 3, none⟩) (v7_ hown4 hP4 de_) (.slice (some ⟨gg, 0, none⟩) (k + 1) cap4)
   have e : x.kids.take (k + 1) = x.kids.take k ++ [el] := by
    rw [List.take_add_one, hkk]; rfl
   rw [e, List.map_append]
   exact h5
 · refine Below.setCell ?_ so_ _
   have hb : Below w.heap.size w ((wr.alloc (.cells #[.string (bs el)] 29)).drew) := bl_
   refine hb.grown hgr hb.size (fun g hg => ?_)
   rcases hown.2 with ⟨rfl, _⟩ | ⟨g', cap, cur, rfl, h, _⟩
   · simp [Value.ownBlock] at hg
   · simp [Value.ownBlock] at hg; omega
theorem zc3_ (l : List UInt8) (hl : l.length ≤ 9000000000000000000) (w : World) :
  Calls Tryz.prog 76 #[.string (bs l)] w (ze5_ w (rt l)) := by
 cases hrt : rt l with
 | none =>
   have HR : Hid (right l = false) := by show right l = false; simp [right, hrt]
   clear hrt
   go_enter Tryz.func76, Tryz.ntmps76
   go_wp2_with (go_at_call 129; refine (zfO_ l hl _).mono ?_; rintro e w1 ⟨rfl, hb1⟩; rw [HR.out]; obtain ⟨hcw, hfw⟩ := bcell hb1; have hz := hb1.size; simp at hz)
   exact bodyPost_ret (v := .tuple #[.agg #[.int .u8 0, .int .i64 0, .string (bs []), .slice none 0 0], .bool false]) (by simp [results, Tryz.results76, go_sem, hcw, hz]) rfl ⟨rfl, bl_⟩
 | some x =>
   have HR : Hid (right l = true) := by show right l = true; simp [right, hrt]
   have hx := zaU_ HR.out
   have hrd : rd 64 l = some x ∧ x.len = l.length := by
    unfold rt at hrt
    rw [if_pos hx.2] at hrt
    split at hrt
    · rename_i y hy
      split at hrt
      · simp at hrt; subst hrt; exact ⟨hy, by assumption⟩
      · simp at hrt
    · simp at hrt
   obtain ⟨hrd, hxl⟩ := hrd
   obtain ⟨_, _, _, _, hop⟩ := za6_ _ _ _ hrd
   have HRD := Lib.hid hrd
   have HXL := Lib.hid hxl
   clear hrt hrd hxl
   obtain ⟨c, r, rfl⟩ : ∃ c r, l = c :: r := by
    cases l with
    | nil => simp at hx
    | cons c r => exact ⟨c, r, rfl⟩
   have hop' : x.op = c := by rw [hop]; rfl
   have HOP := Lib.hid hop'
   clear hop hop'
   have hn63 : x.op.toNat = 110 → x.n ≤ 9223372036854775807 := fun h => ((zdb_ HRD.out).1 h).2.2
   have HO : Hid (∀ k, k + 1 < (q9_ x 0).length → k < x.kids.length ∧ ∃ a e : Nat, (q9_ x 0)[k]? = some a ∧ (q9_ x 0)[k + 1]? = some e ∧ a ≤ e ∧ e ≤ (c :: r).length ∧ x.kids[k]? = some (((c :: r).drop a).take (e - a))) := zqc_ HRD.out
   have H32 : Hid (x.kids.length ≤ 32) := zqd_ HRD.out
   obtain ⟨t0, ht0, ht1, ht2, ht3⟩ := info_parts Tryz.infoTerm
   have hr0 : (0 : Int) ≤ (r.length : Int) + 1 := by omega
   by_cases h110 : c.toNat = 110
   · have hx110 : x.op.toNat = 110 := by rw [HOP.out]; exact h110
     have HT : Hid (([] : List UInt8) = x.text) := ((zdb_ HRD.out).1 hx110).1.symm
     have HN : Hid ((x.n : Int) = q6_ x) := by show (x.n : Int) = _; simp [q6_, hx110]
     have HC : Hid ((110 : Int) = x.op.toNat) := by show (110 : Int) = _; rw [HOP.out, h110]; rfl
     have h63 := hn63 hx110
     clear hn63 hx110
     go_enter Tryz.func76, Tryz.ntmps76
     go_wp2_with (first | (go_at_call 129; refine (zfO_ (c :: r) hl _).mono ?_; rintro e w1 ⟨rfl, hb1⟩; rw [HR.out]; have Hz0 := Lib.hid (x0_ (y8_ w (.cells #[.int .u8 0, .int .i64 0, .string (bs []), .slice none 0 0] 98)) hb1 si_)) | (go_at_call 130; refine (zeR_ (c :: r) hl 64 om_ _ _ _ om_ so_ rfl).mono ?_; rintro e w2 hp; rw [show (0 : Int).toNat = 0 from rfl, List.drop_zero, HRD.out] at hp; obtain ⟨xa, xn, xc, rfl, hown, hb2⟩ := hp))
     clear h110 h63
     obtain rfl := zbS_ hown
     have hsw2 : w.heap.size < w2.heap.size := Nat.lt_of_lt_of_le (z4_ Hz0.out) hb2.size
     go_loopw [6] (fun iv wr => OLoop x w w2.heap.size (w2.heap.size + 1) (.int .i64 x.len) (.int .i64 x.deep) (.int .u64 x.n) (.int .i64 (frm x 0)) (.slice xa (q9_ x 0).length xc) iv wr) (fun iv _ => x.kids.length + 1 - (intOf iv).toNat)
     case atStart => exact zhl_ HC.out HN.out HT.out Hz0.out bl_ hb2 hown
     case round =>
      obtain ⟨k, b2, kv, C, N, T, hC, hN, hT, rfl, hk, hR, hX, hP, hO, hown2, hbel⟩ := hrel
      have HCC := Lib.hid hC
      have HNN := Lib.hid hN
      have HTT := Lib.hid hT
      clear hC hN hT
      obtain ⟨ad, kn, kc, hkv⟩ := za4_ hown2
      subst hkv
      have f0 := z8_ hR
      have f1 := z0_ hR
      have f2 := z8_ hX
      have f3 := z0_ hX
      have f4 := z8_ hP
      have f5 := z0_ hP
      have hltX := z4_ hX
      have hltP := z4_ hP
      have HRR := Lib.hid hR
      have HX := Lib.hid hX
      have HP := Lib.hid hP
      clear hR hX hP
      by_cases hlt : k + 1 < (q9_ x 0).length
      · obtain ⟨hkl, a, e, ha, he, hae, hel, hkk⟩ := HO.out k hlt
        obtain ⟨g, cap, hv, hgb, hgw, hcap, hcap2, hcell⟩ := zbv_ hO om_
        injection hv with hv1 hv2 hv3
        subst hv1 hv3
        have c1 := hcell k (.int .i64 a) (by simp [List.getElem?_map, ha])
        have c2 := hcell (k + 1) (.int .i64 e) (by simp [List.getElem?_map, he])
        clear hcell ha he
        have HKK := Lib.hid hkk
        clear hkk hv2
        have i1 : (a : Int) ≤ e := by omega
        have i2 : (e : Int) ≤ (r.length : Int) + 1 := by simp at hel; omega
        have i3 : (k : Int) < (q9_ x 0).length := by omega
        have i4 : (k : Int) + 1 < (q9_ x 0).length := by omega
        have hneP : some (w2.heap.size + 1) ≠ (Value.slice ad kn kc).ownBlock := v7_ hown2 HP.out de_
        have hk32 := H32.out
        have hsw := hbel.size
        have hw0 : IntKind.i64.wrap (k : Int) = k := IntWalk.i64_in _ om_
        have hw1 : ((k : Int) + 1).toNat = k + 1 := by omega
        have hw2 : (0 : Int) ≤ (k : Int) + 1 := by omega
        obtain ⟨gg, cap4, w4, hrun, hown4, hgr4, hat, hlt4⟩ := run_append_lies (P := Tryz.prog) (w := (wr.alloc (.cells #[.string (bs (((c :: r).drop a).take (e - a)))] 29)).drew) 96 96 w.heap.size 29 t0 _ 1 16 Tryz.underlying96 ht0 ht1 ht2 ht3 rfl om_ (.slice ad kn kc) k _ ((hown2.alloc _).drew) ⟨wr.heap.size, 0, none⟩ 1 1 [.string (bs (((c :: r).drop a).take (e - a)))] rfl (World.news_of_block (cs := #[.string (bs (((c :: r).drop a).take (e - a)))]) (t := 29) (fr := (0, 0)) (heap_alloc_new wr _)) (by simp [Value.oneCell']) om_ (by unfold maxLen; omega) om_ so_ (wr.heap.size + 1) si_
        have Hq := Lib.hid (zaR_ (w := (wr.alloc _).drew) (x3_ HP.out _) hgr4 hneP)
        have f6 := z8_ Hq.out
        have f7 := z0_ Hq.out
        simp [go_sem] at hrun
        go_wp2_with fail
        go_region
        go_wp2
        go_roundw
        case rel => exact zhm_ HCC.out HNN.out HTT.out hkl HKK.out HRR.out HX.out HP.out om_ hO hown2 hbel hown4 hgr4
        case measure => (show x.kids.length + 1 - ((k : Int) + 1 + 1).toNat < x.kids.length + 1 - ((k : Int) + 1).toNat); omega
      · have Hend := Lib.hid (zhk_ HRD.out k hk hlt)
        go_wp2
        refine bodyPost_ret (v := .tuple #[.agg #[.int .u8 C, .int .i64 N, .string (bs T), .slice ad kn kc], .bool true]) (by simp [results, Tryz.results76, go_sem, f0, f1, f4, f5]) rfl ?_
        have hneR : some w.heap.size ≠ (Value.slice ad kn kc).ownBlock := v7_ hown2 HRR.out de_
        refine ⟨ad, kn, kc, by rw [HCC.out, HNN.out, HTT.out], ?_, bl_⟩
        have h5 := v3_ (v3_ (v3_ (v3_ hown2 (p := ⟨w.heap.size, 0, none⟩) hneR (.int .u8 C)) (p := ⟨w.heap.size, 1, none⟩) hneR (.int .i64 N)) (p := ⟨w.heap.size, 2, none⟩) hneR (.string (bs T))) (p := ⟨w.heap.size, 3, none⟩) hneR (.slice ad kn kc)
        rw [Hend.out, List.take_length] at h5
        exact h5
   · clear hn63
     by_cases h116 : c.toNat = 116
     · have hx116 : x.op.toNat = 116 := by rw [HOP.out]; exact h116
       obtain ⟨_, hq2, hq3⟩ := (zdb_ HRD.out).2.1 hx116
       have hfr : frm x 0 = x.len - x.n := by simp [frm, hx116]
       have HT : Hid (((c :: r).drop (frm x 0)).take (x.len - frm x 0) = x.text) := by
        show ((c :: r).drop (frm x 0)).take (x.len - frm x 0) = x.text
        rw [hq3, hfr]; congr 1; omega
       have HN : Hid ((0 : Int) = q6_ x) := by show (0 : Int) = _; simp [q6_, hx116]
       have HC : Hid ((116 : Int) = x.op.toNat) := by show (116 : Int) = _; rw [HOP.out, h116]; rfl
       have j1 : (frm x 0 : Int) ≤ x.len := by omega
       have j2 : (x.len : Int) ≤ (r.length : Int) + 1 := by have := HXL.out; simp at this; omega
       clear hx116 hq2 hq3 hfr
       go_enter Tryz.func76, Tryz.ntmps76
       go_wp2_with (first | (go_at_call 129; refine (zfO_ (c :: r) hl _).mono ?_; rintro e w1 ⟨rfl, hb1⟩; rw [HR.out]; have Hz0 := Lib.hid (x0_ (y8_ w (.cells #[.int .u8 0, .int .i64 0, .string (bs []), .slice none 0 0] 98)) hb1 si_)) | (go_at_call 130; refine (zeR_ (c :: r) hl 64 om_ _ _ _ om_ so_ rfl).mono ?_; rintro e w2 hp; rw [show (0 : Int).toNat = 0 from rfl, List.drop_zero, HRD.out] at hp; obtain ⟨xa, xn, xc, rfl, hown, hb2⟩ := hp))
       clear h116 j1 j2
       obtain rfl := zbS_ hown
       have hsw2 : w.heap.size < w2.heap.size := Nat.lt_of_lt_of_le (z4_ Hz0.out) hb2.size
       go_loopw [6] (fun iv wr => OLoop x w w2.heap.size (w2.heap.size + 1) (.int .i64 x.len) (.int .i64 x.deep) (.int .u64 x.n) (.int .i64 (frm x 0)) (.slice xa (q9_ x 0).length xc) iv wr) (fun iv _ => x.kids.length + 1 - (intOf iv).toNat)
       case atStart => exact zhl_ HC.out HN.out HT.out Hz0.out bl_ hb2 hown
       case round =>
        obtain ⟨k, b2, kv, C, N, T, hC, hN, hT, rfl, hk, hR, hX, hP, hO, hown2, hbel⟩ := hrel
        have HCC := Lib.hid hC
        have HNN := Lib.hid hN
        have HTT := Lib.hid hT
        clear hC hN hT
        obtain ⟨ad, kn, kc, hkv⟩ := za4_ hown2
        subst hkv
        have f0 := z8_ hR
        have f1 := z0_ hR
        have f2 := z8_ hX
        have f3 := z0_ hX
        have f4 := z8_ hP
        have f5 := z0_ hP
        have hltX := z4_ hX
        have hltP := z4_ hP
        have HRR := Lib.hid hR
        have HX := Lib.hid hX
        have HP := Lib.hid hP
        clear hR hX hP
        by_cases hlt : k + 1 < (q9_ x 0).length
        · obtain ⟨hkl, a, e, ha, he, hae, hel, hkk⟩ := HO.out k hlt
          obtain ⟨g, cap, hv, hgb, hgw, hcap, hcap2, hcell⟩ := zbv_ hO om_
          injection hv with hv1 hv2 hv3
          subst hv1 hv3
          have c1 := hcell k (.int .i64 a) (by simp [List.getElem?_map, ha])
          have c2 := hcell (k + 1) (.int .i64 e) (by simp [List.getElem?_map, he])
          clear hcell ha he
          have HKK := Lib.hid hkk
          clear hkk hv2
          have i1 : (a : Int) ≤ e := by omega
          have i2 : (e : Int) ≤ (r.length : Int) + 1 := by simp at hel; omega
          have i3 : (k : Int) < (q9_ x 0).length := by omega
          have i4 : (k : Int) + 1 < (q9_ x 0).length := by omega
          have hneP : some (w2.heap.size + 1) ≠ (Value.slice ad kn kc).ownBlock := v7_ hown2 HP.out de_
          have hk32 := H32.out
          have hsw := hbel.size
          have hw0 : IntKind.i64.wrap (k : Int) = k := IntWalk.i64_in _ om_
          have hw1 : ((k : Int) + 1).toNat = k + 1 := by omega
          have hw2 : (0 : Int) ≤ (k : Int) + 1 := by omega
          obtain ⟨gg, cap4, w4, hrun, hown4, hgr4, hat, hlt4⟩ := run_append_lies (P := Tryz.prog) (w := (wr.alloc (.cells #[.string (bs (((c :: r).drop a).take (e - a)))] 29)).drew) 96 96 w.heap.size 29 t0 _ 1 16 Tryz.underlying96 ht0 ht1 ht2 ht3 rfl om_ (.slice ad kn kc) k _ ((hown2.alloc _).drew) ⟨wr.heap.size, 0, none⟩ 1 1 [.string (bs (((c :: r).drop a).take (e - a)))] rfl (World.news_of_block (cs := #[.string (bs (((c :: r).drop a).take (e - a)))]) (t := 29) (fr := (0, 0)) (heap_alloc_new wr _)) (by simp [Value.oneCell']) om_ (by unfold maxLen; omega) om_ so_ (wr.heap.size + 1) si_
          have Hq := Lib.hid (zaR_ (w := (wr.alloc _).drew) (x3_ HP.out _) hgr4 hneP)
          have f6 := z8_ Hq.out
          have f7 := z0_ Hq.out
          simp [go_sem] at hrun
          go_wp2_with fail
          go_region
          go_wp2
          go_roundw
          case rel => exact zhm_ HCC.out HNN.out HTT.out hkl HKK.out HRR.out HX.out HP.out om_ hO hown2 hbel hown4 hgr4
          case measure => (show x.kids.length + 1 - ((k : Int) + 1 + 1).toNat < x.kids.length + 1 - ((k : Int) + 1).toNat); omega
        · have Hend := Lib.hid (zhk_ HRD.out k hk hlt)
          go_wp2
          refine bodyPost_ret (v := .tuple #[.agg #[.int .u8 C, .int .i64 N, .string (bs T), .slice ad kn kc], .bool true]) (by simp [results, Tryz.results76, go_sem, f0, f1, f4, f5]) rfl ?_
          have hneR : some w.heap.size ≠ (Value.slice ad kn kc).ownBlock := v7_ hown2 HRR.out de_
          refine ⟨ad, kn, kc, by rw [HCC.out, HNN.out, HTT.out], ?_, bl_⟩
          have h5 := v3_ (v3_ (v3_ (v3_ hown2 (p := ⟨w.heap.size, 0, none⟩) hneR (.int .u8 C)) (p := ⟨w.heap.size, 1, none⟩) hneR (.int .i64 N)) (p := ⟨w.heap.size, 2, none⟩) hneR (.string (bs T))) (p := ⟨w.heap.size, 3, none⟩) hneR (.slice ad kn kc)
          rw [Hend.out, List.take_length] at h5
          exact h5
     · have hx110 : x.op.toNat ≠ 110 := by rw [HOP.out]; exact h110
       have hx116 : x.op.toNat ≠ 116 := by rw [HOP.out]; exact h116
       have HT : Hid (([] : List UInt8) = x.text) := ((zdb_ HRD.out).2.2 hx110 hx116).1.symm
       have HN : Hid ((0 : Int) = q6_ x) := by show (0 : Int) = _; simp [q6_, hx110]
       have HC : Hid ((c.toNat : Int) = x.op.toNat) := by show (c.toNat : Int) = _; rw [HOP.out]
       clear hx110 hx116
       go_enter Tryz.func76, Tryz.ntmps76
       go_wp2_with (first | (go_at_call 129; refine (zfO_ (c :: r) hl _).mono ?_; rintro e w1 ⟨rfl, hb1⟩; rw [HR.out]; have Hz0 := Lib.hid (x0_ (y8_ w (.cells #[.int .u8 0, .int .i64 0, .string (bs []), .slice none 0 0] 98)) hb1 si_)) | (go_at_call 130; refine (zeR_ (c :: r) hl 64 om_ _ _ _ om_ so_ rfl).mono ?_; rintro e w2 hp; rw [show (0 : Int).toNat = 0 from rfl, List.drop_zero, HRD.out] at hp; obtain ⟨xa, xn, xc, rfl, hown, hb2⟩ := hp))
       clear h110 h116
       obtain rfl := zbS_ hown
       have hsw2 : w.heap.size < w2.heap.size := Nat.lt_of_lt_of_le (z4_ Hz0.out) hb2.size
       go_loopw [6] (fun iv wr => OLoop x w w2.heap.size (w2.heap.size + 1) (.int .i64 x.len) (.int .i64 x.deep) (.int .u64 x.n) (.int .i64 (frm x 0)) (.slice xa (q9_ x 0).length xc) iv wr) (fun iv _ => x.kids.length + 1 - (intOf iv).toNat)
       case atStart => exact zhl_ HC.out HN.out HT.out Hz0.out bl_ hb2 hown
       case round =>
        obtain ⟨k, b2, kv, C, N, T, hC, hN, hT, rfl, hk, hR, hX, hP, hO, hown2, hbel⟩ := hrel
        have HCC := Lib.hid hC
        have HNN := Lib.hid hN
        have HTT := Lib.hid hT
        clear hC hN hT
        obtain ⟨ad, kn, kc, hkv⟩ := za4_ hown2
        subst hkv
        have f0 := z8_ hR
        have f1 := z0_ hR
        have f2 := z8_ hX
        have f3 := z0_ hX
        have f4 := z8_ hP
        have f5 := z0_ hP
        have hltX := z4_ hX
        have hltP := z4_ hP
        have HRR := Lib.hid hR
        have HX := Lib.hid hX
        have HP := Lib.hid hP
        clear hR hX hP
        by_cases hlt : k + 1 < (q9_ x 0).length
        · obtain ⟨hkl, a, e, ha, he, hae, hel, hkk⟩ := HO.out k hlt
          obtain ⟨g, cap, hv, hgb, hgw, hcap, hcap2, hcell⟩ := zbv_ hO om_
          injection hv with hv1 hv2 hv3
          subst hv1 hv3
          have c1 := hcell k (.int .i64 a) (by simp [List.getElem?_map, ha])
          have c2 := hcell (k + 1) (.int .i64 e) (by simp [List.getElem?_map, he])
          clear hcell ha he
          have HKK := Lib.hid hkk
          clear hkk hv2
          have i1 : (a : Int) ≤ e := by omega
          have i2 : (e : Int) ≤ (r.length : Int) + 1 := by simp at hel; omega
          have i3 : (k : Int) < (q9_ x 0).length := by omega
          have i4 : (k : Int) + 1 < (q9_ x 0).length := by omega
          have hneP : some (w2.heap.size + 1) ≠ (Value.slice ad kn kc).ownBlock := v7_ hown2 HP.out de_
          have hk32 := H32.out
          have hsw := hbel.size
          have hw0 : IntKind.i64.wrap (k : Int) = k := IntWalk.i64_in _ om_
          have hw1 : ((k : Int) + 1).toNat = k + 1 := by omega
          have hw2 : (0 : Int) ≤ (k : Int) + 1 := by omega
          obtain ⟨gg, cap4, w4, hrun, hown4, hgr4, hat, hlt4⟩ := run_append_lies (P := Tryz.prog) (w := (wr.alloc (.cells #[.string (bs (((c :: r).drop a).take (e - a)))] 29)).drew) 96 96 w.heap.size 29 t0 _ 1 16 Tryz.underlying96 ht0 ht1 ht2 ht3 rfl om_ (.slice ad kn kc) k _ ((hown2.alloc _).drew) ⟨wr.heap.size, 0, none⟩ 1 1 [.string (bs (((c :: r).drop a).take (e - a)))] rfl (World.news_of_block (cs := #[.string (bs (((c :: r).drop a).take (e - a)))]) (t := 29) (fr := (0, 0)) (heap_alloc_new wr _)) (by simp [Value.oneCell']) om_ (by unfold maxLen; omega) om_ so_ (wr.heap.size + 1) si_
          have Hq := Lib.hid (zaR_ (w := (wr.alloc _).drew) (x3_ HP.out _) hgr4 hneP)
          have f6 := z8_ Hq.out
          have f7 := z0_ Hq.out
          simp [go_sem] at hrun
          go_wp2_with fail
          go_region
          go_wp2
          go_roundw
          case rel => exact zhm_ HCC.out HNN.out HTT.out hkl HKK.out HRR.out HX.out HP.out om_ hO hown2 hbel hown4 hgr4
          case measure => (show x.kids.length + 1 - ((k : Int) + 1 + 1).toNat < x.kids.length + 1 - ((k : Int) + 1).toNat); omega
        · have Hend := Lib.hid (zhk_ HRD.out k hk hlt)
          go_wp2
          refine bodyPost_ret (v := .tuple #[.agg #[.int .u8 C, .int .i64 N, .string (bs T), .slice ad kn kc], .bool true]) (by simp [results, Tryz.results76, go_sem, f0, f1, f4, f5]) rfl ?_
          have hneR : some w.heap.size ≠ (Value.slice ad kn kc).ownBlock := v7_ hown2 HRR.out de_
          refine ⟨ad, kn, kc, by rw [HCC.out, HNN.out, HTT.out], ?_, bl_⟩
          have h5 := v3_ (v3_ (v3_ (v3_ hown2 (p := ⟨w.heap.size, 0, none⟩) hneR (.int .u8 C)) (p := ⟨w.heap.size, 1, none⟩) hneR (.int .i64 N)) (p := ⟨w.heap.size, 2, none⟩) hneR (.string (bs T))) (p := ⟨w.heap.size, 3, none⟩) hneR (.slice ad kn kc)
          rw [Hend.out, List.take_length] at h5
          exact h5
end Go.Proofs.YtembdkodajichaaGreatDoor
-- RefJ
namespace Go.Proofs.YtembdkodajichaaGreatDoor
open Go.RowKit
def zhn_ (n : Nat) : Prop := ∀ (x : List UInt8) (w : World), x.length ≤ n → 1 ≤ x.length → x.length ≤ 20000 →
 Calls Tryz.prog 89 #[.string (bs x)] w fun e w' => e = .returned (.string (bs (w4_ x))) ∧ Below w.heap.size w w'
theorem zkd_ (x : List UInt8) (hx : x.length ≤ 20000) (hk : ∀ s, rt x = some s → s.op.toNat ≠ 86 ∧ s.op.toNat ≠ 75) (w : World) :
  Calls Tryz.prog 89 #[.string (bs x)] w fun e w' => e = .returned (.string (bs (w4_ x))) ∧ Below w.heap.size w w' := by
 have HK : Hid (w4_ x = 80 :: x) := by
  show w4_ x = _
  rw [zdz_]
  split
  · rfl
  · rename_i s hs
    obtain ⟨h1, h2⟩ := hk s hs
    rw [if_neg h1, if_neg h2]
 cases hr : rt x with
 | none =>
   have HR := Lib.hid hr
   clear hr hk
   go_enter Tryz.func89, Tryz.ntmps89
   go_wp2_with (go_at_call 76; refine (zc3_ x om_ _).mono ?_; rintro e w1 hp; rw [HR.out] at hp; obtain ⟨rfl, hb1⟩ := hp)
   go_ret
   exact ⟨by rw [HK.out]; rfl, bl_⟩
 | some s =>
   obtain ⟨h1, h2⟩ := hk s hr
   have HR := Lib.hid hr
   have b1 : (((s.op.toNat : Nat) : Int) == 86) = false := by simp; omega
   have b2 : (((s.op.toNat : Nat) : Int) == 75) = false := by simp; omega
   clear hr hk h1 h2
   go_enter Tryz.func89, Tryz.ntmps89
   go_wp2_with (go_at_call 76; refine (zc3_ x om_ _).mono ?_; rintro e w1 hp; rw [HR.out] at hp; obtain ⟨ad, kn, kc, rfl, hown, hb1⟩ := hp)
   go_ret
   exact ⟨by rw [HK.out]; rfl, bl_⟩
theorem zqe_ (n : Nat) (ih : zhn_ n) (x : List UInt8) (hn : x.length ≤ n + 1) (hx : x.length ≤ 20000) (s : Sh) (hr : rt x = some s) (ho : s.op.toNat = 86) (w : World) :
  Calls Tryz.prog 89 #[.string (bs x)] w fun e w' => e = .returned (.string (bs (w4_ x))) ∧ Below w.heap.size w w' := by
 obtain ⟨a, b, hk, hl, ha, hb⟩ := zcw_ hr (.inl ho)
 have HK : Hid (w4_ x = 87 :: (w4_ a ++ w4_ b)) := by
  show w4_ x = _
  rw [zdz_, hr]
  simp only [ho, if_true, hk, List.getD_cons_zero, List.getD_cons_succ]
 have ha1 := zaU_ ha
 have hb1 := zaU_ hb
 have hka := zdc_ ha1.1
 have hkb := zdc_ hb1.1
 have HR := Lib.hid hr
 have HKS := Lib.hid hk
 have b1 : (((s.op.toNat : Nat) : Int) == 86) = true := by simp [ho]
 have s1 : ¬ 9223372036854775807 < 1 + (w4_ a).length := by omega
 have s2 : ¬ 9223372036854775807 < (w4_ a).length + 1 + (w4_ b).length := by omega
 clear hr ho hk ha hb hka hkb
 go_enter Tryz.func89, Tryz.ntmps89
 go_wp2_with (go_at_call 76; refine (zc3_ x om_ _).mono ?_; rintro e w1 hp; rw [HR.out] at hp; obtain ⟨ad, kn, kc, rfl, hown, hbo⟩ := hp; rw [HKS.out] at hown; obtain ⟨g, cap, hv, hgb, hgw, hcap, hcap2, hcell⟩ := zbv_ hown si_; injection hv with hv1 hv2 hv3; subst hv1 hv2 hv3; have c0 := hcell 0 (.string (bs a)) rfl; have c1 := hcell 1 (.string (bs b)) rfl; clear hcell hown)
 go_region_held3 (fun w' => w'.cell? ⟨w1.heap.size, 3, none⟩ = some (.slice (some ⟨g, 0, none⟩) 2 kc) ∧ w'.cell? ⟨g, 0, none⟩ = some (.string (bs a)) ∧ w'.cell? ⟨g, 1, none⟩ = some (.string (bs b)))
  (first
    | go_keep
    | (go_split_ands
       refine ⟨?_, ?_, ?_⟩
       · exact (hbk.cell (World.block_lt_of_cell? _ _ as_)).trans as_
       · exact (hbk.cell (World.block_lt_of_cell? _ _ as_)).trans as_
       · exact (hbk.cell (World.block_lt_of_cell? _ _ as_)).trans as_))
  ((go_at_call 89; refine (ih _ _ om_ om_ om_).mono ?_; rintro e wk ⟨rfl, hbk⟩))
 all_goals
  go_wp2
  go_ret
  exact ⟨by rw [HK.out]; rfl, bl_⟩
theorem zqf_ (n : Nat) (ih : zhn_ n) (x : List UInt8) (hn : x.length ≤ n + 1) (hx : x.length ≤ 20000) (s : Sh) (hr : rt x = some s) (ho : s.op.toNat = 75) (w : World) :
  Calls Tryz.prog 89 #[.string (bs x)] w fun e w' => e = .returned (.string (bs (w4_ x))) ∧ Below w.heap.size w w' := by
 obtain ⟨a, b, hk, hl, ha, hb⟩ := zcw_ hr (.inr ho)
 have HK : Hid (w4_ x = 76 :: (w4_ a ++ b)) := by
  show w4_ x = _
  rw [zdz_, hr]
  simp only [ho, hk, List.getD_cons_zero, List.getD_cons_succ]
  rfl
 have ha1 := zaU_ ha
 have hb1 := zaU_ hb
 have hka := zdc_ ha1.1
 have hkb := zdc_ hb1.1
 have HR := Lib.hid hr
 have HKS := Lib.hid hk
 have b1 : (((s.op.toNat : Nat) : Int) == 86) = false := by simp [ho]
 have b2 : (((s.op.toNat : Nat) : Int) == 75) = true := by simp [ho]
 have s1 : ¬ 9223372036854775807 < 1 + (w4_ a).length := by omega
 have s2 : ¬ 9223372036854775807 < (w4_ a).length + 1 + b.length := by omega
 clear hr ho hk ha hb hka hkb
 go_enter Tryz.func89, Tryz.ntmps89
 go_wp2_with (go_at_call 76; refine (zc3_ x om_ _).mono ?_; rintro e w1 hp; rw [HR.out] at hp; obtain ⟨ad, kn, kc, rfl, hown, hbo⟩ := hp; rw [HKS.out] at hown; obtain ⟨g, cap, hv, hgb, hgw, hcap, hcap2, hcell⟩ := zbv_ hown si_; injection hv with hv1 hv2 hv3; subst hv1 hv2 hv3; have c0 := hcell 0 (.string (bs a)) rfl; have c1 := hcell 1 (.string (bs b)) rfl; clear hcell hown)
 go_region_held3 (fun w' => w'.cell? ⟨w1.heap.size, 3, none⟩ = some (.slice (some ⟨g, 0, none⟩) 2 kc) ∧ w'.cell? ⟨g, 0, none⟩ = some (.string (bs a)) ∧ w'.cell? ⟨g, 1, none⟩ = some (.string (bs b)))
  (first
    | go_keep
    | (go_split_ands
       refine ⟨?_, ?_, ?_⟩
       · exact (hbk.cell (World.block_lt_of_cell? _ _ as_)).trans as_
       · exact (hbk.cell (World.block_lt_of_cell? _ _ as_)).trans as_
       · exact (hbk.cell (World.block_lt_of_cell? _ _ as_)).trans as_))
  ((go_at_call 89; refine (ih _ _ om_ om_ om_).mono ?_; rintro e wk ⟨rfl, hbk⟩))
 all_goals
  go_wp2
  go_ret
  exact ⟨by rw [HK.out]; rfl, bl_⟩
theorem zho_ : ∀ n, zhn_ n
 | 0 => fun x w h0 h1 _ => by omega
 | n + 1 => fun x w h0 h1 h2 => by
   cases hr : rt x with
   | none => exact zkd_ x h2 (fun s hs => by rw [hr] at hs; simp at hs) w
   | some s =>
     by_cases h86 : s.op.toNat = 86
     · exact zqe_ n (zho_ n) x h0 h2 s hr h86 w
     · by_cases h75 : s.op.toNat = 75
       · exact zqf_ n (zho_ n) x h0 h2 s hr h75 w
       · exact zkd_ x h2 (fun t ht => by rw [hr] at ht; simp at ht; subst ht; exact ⟨h86, h75⟩) w
theorem zqg_ (x : List UInt8) (h1 : 1 ≤ x.length) (h2 : x.length ≤ 20000) (w : World) :
  Calls Tryz.prog 89 #[.string (bs x)] w fun e w' => e = .returned (.string (bs (w4_ x))) ∧ Below w.heap.size w w' :=
 zho_ x.length x w (Nat.le_refl _) h1 h2
end Go.Proofs.YtembdkodajichaaGreatDoor
-- RefK
namespace Go.Proofs.YtembdkodajichaaGreatDoor
open Go.RowKit
end Go.Proofs.YtembdkodajichaaGreatDoor
