/- The program's invoices: words read. -/
import Derived.Test.YtembdkodajichaaGreatDoorByteC
import Derived.Test.YtembdkodajichaaGreatDoorBitsB
import Derived.Test.YtembdkodajichaaGreatDoorInvP
import Derived.WalkLawsBesides
import Derived.RegionDies
set_option maxRecDepth 100000
set_option maxHeartbeats 4000000
set_option linter.unusedSimpArgs false
set_option linter.unusedVariables false
namespace Go.Proofs.YtembdkodajichaaGreatDoor
open Go.RowKit
def oddP : PanicEntry := { v := .iface 76 (.agg #[]), recovered := false }
def RAt (R : Nat) (l : List UInt8) (w : World) : Prop := ∃ ad c, w.heap[R]? = some (.cells #[.slice ad l.length c] 80 (0, 0)) ∧ InAt (.slice ad l.length c) l w
def TakeO (R : Nat) (o : Option (List UInt8 × List UInt8)) (w : World) (e : Ending) (w' : World) : Prop :=
 GL [R] w w' ∧ match o with
 | none => e = .panicked [oddP]
 | some (a, r) => ∃ ad c, e = .returned (.slice ad a.length c) ∧ InAt (.slice ad a.length c) a w' ∧ RAt R r w'
theorem takeO_none {R : Nat} {o : Option (List UInt8 × List UInt8)} {w w' : World} (h : o = none) (hg : GL [R] w w') : TakeO R o w (.panicked [oddP]) w' := by
 subst h; exact ⟨hg, rfl⟩
theorem takeO_some {R : Nat} {o : Option (List UInt8 × List UInt8)} {w w' : World} {a r : List UInt8} {ad : Option Addr} {n c : Nat} (h : o = some (a, r)) (hg : GL [R] w w') (hn : n = a.length) (h1 : InAt (.slice ad n c) a w') (h2 : RAt R r w') : TakeO R o w (.returned (.slice ad n c)) w' := by
 subst h hn; exact ⟨hg, ad, c, rfl, h1, h2⟩
theorem iTake (R n : Nat) (N : Int) (hN : N = n) (l : List UInt8) (w : World) (h : RAt R l w) (hl : l.length ≤ 1000000000) (hn : n ≤ 1000000000) :
  Calls Tryz.prog 103 #[.pointer (some ⟨R, 0, none⟩), .int .i64 N] w (TakeO R (takeW n l) w) := by
 subst hN
 obtain ⟨ad, c, hR, hin⟩ := h
 have HR := Lib.hid hR
 have HIN := Lib.hid hin
 have f0 := blk_cell hR 0
 have e0 := blk_free hR 0
 have hc : l.length ≤ c := by
  obtain ⟨a', c', e, hc', _⟩ := inAt_form hin
  injection e with _ _ e3
  omega
 have HNE := Lib.hid (inAt_apart hin hR si_)
 clear hin hR
 by_cases hn2 : n ≤ l.length
 · have HT : Hid (takeW n l = some (l.take n, l.drop n)) := Lib.hid (by unfold takeW; rw [if_pos hn2])
   have n1 : (n : Int) ≤ l.length := by omega
   have n2 : (n : Int) ≤ c := by omega
   have HI2 := Lib.hid (inAt_take (c2 := n) HIN.out hn2 (Nat.le_refl _))
   have HI3 := Lib.hid (inAt_drop HIN.out hn2)
   go_enter Tryz.func103, Tryz.ntmps103
   by_cases hcn : c = n
   · subst hcn
     obtain rfl : c = l.length := by omega
     rw [show l.length - l.length = 0 by omega, if_pos rfl] at HI3
     go_wp2_with fail
     refine bodyPost_ret (v := .slice ad l.length l.length) (by simp [results, Tryz.results103, go_sem]) rfl ?_
     have hg : GL [R] w (w.setCell ⟨R, 0, none⟩ (.slice ad 0 0)) := gl_set (gl_refl _ _) (.inl si_) _
     refine takeO_some HT.out hg si_ (inAt_glr HI2.out hg (fun G o c e hne => ?_)) ⟨ad, 0, ?_, ?_⟩
     · injection e with e1 _ e3
       subst e1
       exact HNE.out G o _ rfl (fun h0 => hne (by rw [h0]; simp))
     · have := blk_set HR.out 0 (.slice ad 0 0)
       simpa using this
     · rw [List.drop_length]
       exact inAt_mk rfl (Nat.le_refl _) (fun h => absurd rfl h)
   · rw [if_neg hcn] at HI3
     go_wp2_with fail
     refine bodyPost_ret (v := .slice ad n n) (by simp [results, Tryz.results103, go_sem]) rfl ?_
     have hg : GL [R] w (w.setCell ⟨R, 0, none⟩ (.slice (Option.map (fun x => x.add n) ad) (l.length - n) (c - n))) := gl_set (gl_refl _ _) (.inl si_) _
     refine takeO_some HT.out hg (by rw [List.length_take]; omega) (inAt_glr HI2.out hg (fun G o c e hne => ?_)) ⟨Option.map (fun x => x.add n) ad, c - n, ?_, ?_⟩
     · injection e with e1 _ e3
       subst e1
       exact HNE.out G o _ rfl (fun h0 => hne (by rw [h0]; simp))
     · have := blk_set HR.out 0 (.slice (Option.map (fun x => x.add n) ad) (l.length - n) (c - n))
       rw [List.length_drop]
       simpa using this
     · rw [List.length_drop]
       refine inAt_glr HI3.out hg (fun G o c2 e hne => ?_)
       injection e with e1 _ e3
       obtain ⟨⟨G2, o2, s2⟩, rfl, e2⟩ := Option.map_eq_some_iff.1 e1
       have hs2 : s2 = none := by
        obtain ⟨a', c', e', hc', hb⟩ := inAt_form HIN.out
        injection e' with e1'
        obtain ⟨G', o', e2', _⟩ := hb (fun h0 => hne (by rw [h0]; simp))
        rw [← e1'] at e2'
        simp at e2'
        exact e2'.2.2
       subst hs2
       have hG2 : G2 = G := by
        unfold Addr.add at e2
        split at e2 <;> simp_all
       subst hG2
       exact HNE.out G2 o2 c rfl (fun h0 => hne (by rw [h0]; simp))
 · have HT : Hid (takeW n l = none) := Lib.hid (by unfold takeW; rw [if_neg hn2])
   have n1 : (l.length : Int) < n := by omega
   go_enter Tryz.func103, Tryz.ntmps103
   go_wp2_with fail
   exact ⟨rfl, takeO_none HT.out (gl_refl _ _)⟩
theorem byteAt {ad : Option Addr} {n c : Nat} {l : List UInt8} {w : World} (h : InAt (.slice ad n c) l w) (h0 : l ≠ []) : ∃ G o, ad = some ⟨G, o, none⟩ ∧ n = l.length ∧ ∀ j, j < l.length → w.cell? ⟨G, o + j, none⟩ = some (.int .u8 (l.getD j 0).toNat) := by
 obtain ⟨a', c', e, hc', hb⟩ := inAt_form h
 injection e with e1 e2 e3
 subst e1 e2 e3
 obtain ⟨G, o, hA, hB, hj⟩ := hb h0
 exact ⟨G, o, hA, rfl, hj⟩
theorem rAt_len {R : Nat} {l : List UInt8} {w : World} (h : RAt R l w) : True := trivial
def FldO (R : Nat) (o : Option (List UInt8 × List UInt8)) (w : World) (e : Ending) (w' : World) : Prop := TakeO R o w e w'
theorem takeW_len {n : Nat} {l a r : List UInt8} (h : takeW n l = some (a, r)) : a.length = n ∧ r.length ≤ l.length ∧ l = a ++ r := by
 obtain ⟨h1, h2⟩ := takeW_some h
 subst h1
 exact ⟨h2, by simp, rfl⟩
theorem or_field (x y : Nat) (hx : x < 256) (hy : y < 32) : bits .or .i64 (IntKind.i64.wrap (IntKind.i64.wrap (x : Int) * 32)) (IntKind.i64.wrap (y : Int)) = ((x * 32 + y : Nat) : Int) := by
 have h := or_i64 (x * 32) y om_ om_
 have e := or_shift x y 5 om_
 rw [show x * 2 ^ 5 = x * 32 by omega] at e
 rw [e] at h
 have e1 : IntKind.i64.wrap (x : Int) = x := by rw [IntKind.wrap_i64]; omega
 have e2 : IntKind.i64.wrap ((x : Int) * 32) = ((x * 32 : Nat) : Int) := by rw [IntKind.wrap_i64]; omega
 have e3 : IntKind.i64.wrap (y : Int) = y := by rw [IntKind.wrap_i64]; omega
 rw [e1, e2, e3, h]
theorem rAt_gl {R : Nat} {l : List UInt8} {w w' : World} (h : RAt R l w) (hg : GL [] w w') : RAt R l w' := by
 obtain ⟨ad, c, h1, h2⟩ := h
 exact ⟨ad, c, blk_gl h1 hg si_, inAt_gl h2 hg⟩
theorem iField (R : Nat) (tag : UInt8) (l : List UInt8) (w : World) (h : RAt R l w) (hl : l.length ≤ 1000000000) (h32 : ∀ x ∈ l, x.toNat < 32) :
  Calls Tryz.prog 141 #[.pointer (some ⟨R, 0, none⟩), .int .u8 tag.toNat] w (TakeO R (fieldR tag l) w) := by
 have HH := Lib.hid h
 clear h
 cases ht : takeW 3 l with
 | none =>
   have HT := Lib.hid ht
   have HF : Hid (fieldR tag l = none) := Lib.hid (by unfold fieldR; rw [ht]; rfl)
   clear ht
   go_enter Tryz.func141, Tryz.ntmps141
   go_wp2_with fail
   refine (iTake R 3 3 rfl l _ HH.out hl om_).mono ?_
   rintro e w1 ⟨hg, hp⟩
   rw [HT.out] at hp
   have hp : e = .panicked [oddP] := hp
   subst hp
   go_wp2_with fail
   exact ⟨rfl, takeO_none HF.out hg⟩
 | some ar =>
   obtain ⟨a, r⟩ := ar
   obtain ⟨h1, h2, h3⟩ := takeW_len ht
   obtain ⟨t, u, v, rfl⟩ : ∃ t u v, a = [t, u, v] := by
    match a, h1 with
    | [t, u, v], _ => exact ⟨t, u, v, rfl⟩
   have hu := h32 u (by rw [h3]; simp)
   have hv := h32 v (by rw [h3]; simp)
   have HT := Lib.hid ht
   have HF : Hid (fieldR tag l = if t = tag then takeW (u.toNat * 32 + v.toNat) r else none) := Lib.hid (by unfold fieldR; rw [ht]; rfl)
   clear ht h3 h1
   go_enter Tryz.func141, Tryz.ntmps141
   go_wp2_with fail
   refine (iTake R 3 3 rfl l _ HH.out hl om_).mono ?_
   rintro e w1 ⟨hg, hp⟩
   rw [HT.out] at hp
   obtain ⟨ad, c, rfl, hin, hr⟩ := hp
   obtain ⟨G, o, rfl, _, hj⟩ := byteAt hin si_
   have c0 := hj 0 si_
   have c1 := hj 1 si_
   have c2 := hj 2 si_
   have HG := Lib.hid hg
   have HR := Lib.hid hr
   have hr2 : r.length ≤ 1000000000 := by omega
   clear hin hj hg hr
   simp only [List.getD_cons_zero, List.getD_cons_succ] at c0 c1 c2
   rw [Nat.add_zero] at c0
   by_cases htt : t = tag
   · subst htt
     rw [if_pos rfl] at HF
     have hut := u.toNat_lt
     have hkl : u.toNat * 32 + v.toNat ≤ 1000000000 := by omega
     cases hq : takeW (u.toNat * 32 + v.toNat) r with
     | none =>
       have HQ := Lib.hid hq
       clear hq
       go_wp2_with fail
       go_region_dies
       all_goals (refine (iTake R (u.toNat * 32 + v.toNat) _ (or_field _ _ hut hv) r _ (rAt_gl HR.out (gl_drew (gl_refl _ _))) hr2 hkl).mono ?_; rintro e w2 ⟨hg2, hp2⟩; rw [HQ.out] at hp2; (have hp2 : e = .panicked [oddP] := hp2); subst hp2; go_wp2_with fail)
       all_goals exact ⟨rfl, takeO_none (HF.out.trans HQ.out) (gl_step hg2 (gl_drew HG.out) si_)⟩
     | some ar =>
       obtain ⟨a, r2⟩ := ar
       have HQ := Lib.hid hq
       clear hq
       go_wp2_with fail
       go_region_with (go_at_call 103; refine (iTake R (u.toNat * 32 + v.toNat) _ (or_field _ _ hut hv) r _ (rAt_gl HR.out (gl_drew (gl_refl _ _))) hr2 hkl).mono ?_; rintro e w2 ⟨hg2, hp2⟩; rw [HQ.out] at hp2; obtain ⟨ad2, c2, rfl, hin2, hr3⟩ := hp2)
       all_goals go_wp2_with fail
       all_goals exact bodyPost_ret (v := .slice ad2 a.length c2) (by simp [results, Tryz.results141, go_sem]) rfl (takeO_some (HF.out.trans HQ.out) (gl_step hg2 (gl_drew HG.out) si_) rfl hin2 hr3)
   · rw [if_neg htt] at HF
     have hne : ((t.toNat : Nat) : Int) ≠ tag.toNat := fun h => htt (UInt8.toNat_inj.1 om_)
     have hne1 : (((t.toNat : Nat) : Int) != tag.toNat) = true := by simp; omega
     have hne2 : (((t.toNat : Nat) : Int) == tag.toNat) = false := by simp; omega
     clear htt hne
     go_wp2_with fail
     exact ⟨rfl, takeO_none HF.out HG.out⟩
end Go.Proofs.YtembdkodajichaaGreatDoor
