/- The program's invoices: an invoice read off its words. -/
import Derived.Test.YtembdkodajichaaGreatDoorInvS
import Derived.Test.YtembdkodajichaaGreatDoorInvM
set_option maxRecDepth 100000
set_option maxHeartbeats 4000000
set_option linter.unusedSimpArgs false
set_option linter.unusedVariables false
namespace Go.Proofs.YtembdkodajichaaGreatDoor
open Go.RowKit
def InvO (R : Nat) (o : Option Inv) (w : World) (e : Ending) (w' : World) : Prop :=
 GL [R] w w' ∧ match o with
 | none => e = .panicked [oddP]
 | some x => e = .returned (invV x)
theorem invO_none {R : Nat} {o : Option Inv} {w w' : World} (h : o = none) (hg : GL [R] w w') : InvO R o w (.panicked [oddP]) w' := by
 subst h; exact ⟨hg, rfl⟩
theorem invO_some {R : Nat} {o : Option Inv} {w w' : World} {x : Inv} {v : Value} (h : o = some x) (hg : GL [R] w w') (hv : v = invV x) : InvO R o w (.returned v) w' := by
 subst h hv; exact ⟨hg, rfl⟩
theorem txtR_rest {tag : UInt8} {l t r : List UInt8} (h : txtR tag l = some (t, r)) (h32 : ∀ x ∈ l, x.toNat < 32) : t.length ≤ 639 ∧ r.length ≤ l.length ∧ ∀ x ∈ r, x.toNat < 32 := by
 obtain ⟨h1, h2⟩ := txtR_some h h32
 refine ⟨h2, ?_, fun x hx => h32 x ?_⟩
 · rw [h1, List.length_append]; omega
 · rw [h1]; simp [hx]
theorem digitsR_rest {tag : UInt8} {l r : List UInt8} {n : Nat} (h : digitsR tag l = some (n, r)) (h32 : ∀ x ∈ l, x.toNat < 32) : n < 34359738368 ∧ r.length ≤ l.length ∧ ∀ x ∈ r, x.toNat < 32 := by
 obtain ⟨h1, h2⟩ := digitsR_some h h32
 refine ⟨h2, ?_, fun x hx => h32 x ?_⟩
 · rw [h1, List.length_append]; omega
 · rw [h1]; simp [hx]
theorem takeW_rest {n : Nat} {l a r : List UInt8} (h : takeW n l = some (a, r)) (h32 : ∀ x ∈ l, x.toNat < 32) : a.length = n ∧ r.length ≤ l.length ∧ (∀ x ∈ a, x.toNat < 32) ∧ ∀ x ∈ r, x.toNat < 32 := by
 obtain ⟨h1, h2, h3⟩ := takeW_len h
 refine ⟨h1, h2, fun x hx => h32 x ?_, fun x hx => h32 x ?_⟩ <;> rw [h3] <;> simp [hx]
structure IvSt (R X : Nat) (l : List UInt8) (x : Inv) (w0 wr : World) : Prop where
 rd : RAt R l wr
 blk : wr.heap[X]? = some (.cells (invC x) 31 (0, 0))
 gl : GL [R] w0 wr
theorem iv_gl {R X : Nat} {l r : List UInt8} {x : Inv} {w0 wr w1 : World} (h : IvSt R X l x w0 wr) (hg : GL [R] wr w1) (hr : RAt R r w1) (hX : X ≠ R) : IvSt R X r x w0 w1 :=
 ⟨hr, blk_gl h.blk hg (by simpa using hX), gl_step hg h.gl si_⟩
theorem rAt_set {R X : Nat} {l : List UInt8} {w : World} {cs : Array Value} {T : Nat} {fz : Nat × Nat} (h : RAt R l w) (hX : w.heap[X]? = some (.cells cs T fz)) (hRX : X ≠ R) (j : Nat) (v : Value) (hall : ∀ (i : Nat) (n : Int), cs[i]? ≠ some (Value.int .u8 n)) : RAt R l (w.setCell ⟨X, j, none⟩ v) := by
 obtain ⟨ad, c, h1, h2⟩ := h
 refine ⟨ad, c, blk_ne h1 (fun e => hRX e.symm) _, ?_⟩
 obtain ⟨a', c', e, hc, hb⟩ := inAt_form h2
 injection e with e1 _ e3
 subst e1 e3
 refine inAt_mk rfl hc fun hn => ?_
 obtain ⟨G, o, rfl, hB, hj⟩ := hb hn
 refine ⟨G, o, rfl, bytesAt_gl (rs := [X]) ⟨hB, hj⟩ (gl_set (gl_refl _ _) (.inl si_) _) (fun hm => ?_)⟩
 obtain rfl : G = X := by simpa using hm
 have h0 := hj 0 (List.length_pos_iff.2 hn)
 rw [blk_cell hX] at h0
 exact hall _ _ h0
theorem iv_set {R X : Nat} {l : List UInt8} {x y : Inv} {w0 wr : World} (h : IvSt R X l x w0 wr) (hX : X ≠ R) (hX0 : w0.heap.size ≤ X) (j : Nat) (v : Value) (hy : (invC x).setIfInBounds j v = invC y) : IvSt R X l y w0 (wr.setCell ⟨X, j, none⟩ v) := by
 have hall : ∀ (i : Nat) (n : Int), (invC x)[i]? ≠ some (Value.int .u8 n) := by
  intro i n
  match i with
  | 0 | 1 | 2 | 3 | 4 | 5 | 6 | 7 => simp [invC]
  | k + 8 => simp [invC]
 refine ⟨rAt_set h.rd h.blk hX j v hall, ?_, gl_set h.gl (.inr hX0) _⟩
 rw [← hy]
 exact blk_set h.blk j v
theorem iInvoice (R : Nat) (l : List UInt8) (w : World) (h : RAt R l w) (hR : gN ≤ R) (hG : GOk w) (hl : l.length ≤ 100000000) (h32 : ∀ x ∈ l, x.toNat < 32) :
  Calls Tryz.prog 54 #[.pointer (some ⟨R, 0, none⟩)] w (InvO R (invR l) w) := by
 have hRw : R < w.heap.size := by
  obtain ⟨_, _, h1, _⟩ := h
  exact blk_lt h1
 have HG := Lib.hid hG
 have S0 : Hid (IvSt R w.heap.size l Inv.zero w (w.alloc (.cells (invC Inv.zero) 31))) := Lib.hid ⟨rAt_gl h (gl_alloc (gl_refl _ _) _), blk_new _ _, gl_alloc (gl_refl _ _) _⟩
 have HX : w.heap.size ≠ R := by omega
 clear h hG
 have HIR : Hid (invR l = (takeW 7 l).bind fun (s, l0) => (txtR 1 l0).bind fun (h, l1) => (txtR 19 l1).bind fun (p, l2) => (txtR 13 l2).bind fun (m, l3) =>
 (digitsR 6 l3).bind fun (x, l4) => (digitsR 24 l4).bind fun (d, l5) => (txtR 16 l5).bind fun (g, l6) =>
 if l6 = [] ∧ mayI ⟨0, valB 32 s, h, p, m, x, d, g⟩ = true then some ⟨0, valB 32 s, h, p, m, x, d, g⟩ else none) := Lib.hid rfl
 go_enter Tryz.func54, Tryz.ntmps54
 go_wp2_with fail
 have S1 : Hid (IvSt R w.heap.size l Inv.zero w (w.alloc (.cells #[.int .i64 0, .int .i64 0, .string (bs []), .string (bs []), .string (bs []), .int .i64 0, .int .i64 0, .string (bs [])] 31))) := S0
 generalize w.alloc (.cells #[.int .i64 0, .int .i64 0, .string (bs []), .string (bs []), .string (bs []), .int .i64 0, .int .i64 0, .string (bs [])] 31) = w1 at *
 clear S0
 have CUR := S1
 clear S1
 have h32 := Lib.hid h32
 cases hq0 : takeW 7 l with
 | none =>
   have HN : Hid (invR l = none) := Lib.hid (by rw [HIR.out, hq0]; rfl)
   have HQ := Lib.hid hq0
   clear hq0
   go_wp2_with fail
   refine (iTake R 7 7 rfl l _ CUR.out.rd om_ om_).mono ?_
   rintro e w2 ⟨hg, hp⟩
   rw [HQ.out] at hp
   have hp : e = .panicked [oddP] := hp
   subst hp
   go_wp2_with fail
   exact ⟨rfl, invO_none HN.out (gl_step hg CUR.out.gl si_)⟩
 | some ar0 =>
   obtain ⟨s, l0⟩ := ar0
   obtain ⟨q0a, q0b, q0c, q0d⟩ := takeW_rest hq0 h32.out
   have hl0 : l0.length ≤ 100000000 := by omega
   have hh0 := Lib.hid q0d
   clear q0d
   have HIR := Lib.hid (HIR.out.trans (by rw [hq0]))
   simp only [Option.bind_some] at HIR
   have HQ0 := Lib.hid hq0
   clear hq0
   go_wp2_with fail
   refine (iTake R 7 7 rfl l _ CUR.out.rd om_ om_).mono ?_
   rintro e w2 ⟨hg, hp⟩
   rw [HQ0.out] at hp
   obtain ⟨ad, c, rfl, hin, hr⟩ := hp
   have CUR2 := Lib.hid (iv_gl CUR.out hg hr HX)
   rw [q0a] at hin
   have HIN := Lib.hid hin
   have HS := Lib.hid q0c
   clear CUR hg hr hin q0c
   have CUR := CUR2
   clear CUR2
   go_wp2_with fail
   refine (iNumber s _ _ _ _ _ HIN.out HS.out om_).mono ?_
   rintro e w2b ⟨rfl, he⟩
   rw [if_neg om_] at he
   subst he
   have f2 := blk_cell CUR.out.blk
   have e2 := blk_free CUR.out.blk
   have CUR2 := Lib.hid (iv_set CUR.out HX (Nat.le_refl _) 1 (.int .i64 (valB 32 s : Nat)) (y := ⟨0, valB 32 s, [], [], [], 0, 0, []⟩) rfl)
   have f21 : w2b.cell? ⟨w.heap.size, 1, none⟩ = some (.int .i64 0) := f2 1
   clear f2
   go_upto_region 2 with fail
   generalize w2b.setCell ⟨w.heap.size, 1, none⟩ (.int .i64 (valB 32 s : Nat)) = w2c at *
   clear CUR f21 e2
   have CUR := CUR2
   clear CUR2
   cases hq1 : txtR 1 l0 with
   | none =>
     have HN : Hid (invR l = none) := Lib.hid (by rw [HIR.out, hq1]; rfl)
     have HQ := Lib.hid hq1
     clear hq1
     go_wp2_with fail
     refine (iText R 1 1 rfl l0 _ CUR.out.rd hl0 hh0.out).mono ?_
     rintro e w2 ⟨hg, hp⟩
     rw [HQ.out] at hp
     have hp : e = .panicked [oddP] := hp
     subst hp
     go_wp2_with fail
     exact ⟨rfl, invO_none HN.out (gl_step hg CUR.out.gl si_)⟩
   | some ar1 =>
     obtain ⟨h, l1⟩ := ar1
     obtain ⟨q1a, q1b, q1d⟩ := txtR_rest hq1 hh0.out
     have hl1 : l1.length ≤ 100000000 := by omega
     have hh1 := Lib.hid q1d
     clear q1d
     have HIR := Lib.hid (HIR.out.trans (by rw [hq1]))
     simp only [Option.bind_some] at HIR
     have HQ1 := Lib.hid hq1
     clear hq1
     go_wp2_with fail
     refine (iText R 1 1 rfl l0 _ CUR.out.rd hl0 hh0.out).mono ?_
     rintro e w3 ⟨hg, hp⟩
     rw [HQ1.out] at hp
     obtain ⟨rfl, hr⟩ := hp
     have CUR2 := Lib.hid (iv_gl CUR.out hg hr HX)
     clear CUR hg hr
     have CUR := CUR2
     clear CUR2
     cases hq2 : txtR 19 l1 with
     | none =>
       have HN : Hid (invR l = none) := Lib.hid (by rw [HIR.out, hq2]; rfl)
       have HQ := Lib.hid hq2
       clear hq2
       go_wp2_with fail
       refine (iText R 19 19 rfl l1 _ CUR.out.rd hl1 hh1.out).mono ?_
       rintro e w2 ⟨hg, hp⟩
       rw [HQ.out] at hp
       have hp : e = .panicked [oddP] := hp
       subst hp
       go_wp2_with fail
       exact ⟨rfl, invO_none HN.out (gl_step hg CUR.out.gl si_)⟩
     | some ar2 =>
       obtain ⟨p, l2⟩ := ar2
       obtain ⟨q2a, q2b, q2d⟩ := txtR_rest hq2 hh1.out
       have hl2 : l2.length ≤ 100000000 := by omega
       have hh2 := Lib.hid q2d
       clear q2d
       have HIR := Lib.hid (HIR.out.trans (by rw [hq2]))
       simp only [Option.bind_some] at HIR
       have HQ2 := Lib.hid hq2
       clear hq2
       go_wp2_with fail
       refine (iText R 19 19 rfl l1 _ CUR.out.rd hl1 hh1.out).mono ?_
       rintro e w4 ⟨hg, hp⟩
       rw [HQ2.out] at hp
       obtain ⟨rfl, hr⟩ := hp
       have CUR2 := Lib.hid (iv_gl CUR.out hg hr HX)
       clear CUR hg hr
       have CUR := CUR2
       clear CUR2
       cases hq3 : txtR 13 l2 with
       | none =>
         have HN : Hid (invR l = none) := Lib.hid (by rw [HIR.out, hq3]; rfl)
         have HQ := Lib.hid hq3
         clear hq3
         go_wp2_with fail
         refine (iText R 13 13 rfl l2 _ CUR.out.rd hl2 hh2.out).mono ?_
         rintro e w2 ⟨hg, hp⟩
         rw [HQ.out] at hp
         have hp : e = .panicked [oddP] := hp
         subst hp
         go_wp2_with fail
         exact ⟨rfl, invO_none HN.out (gl_step hg CUR.out.gl si_)⟩
       | some ar3 =>
         obtain ⟨m, l3⟩ := ar3
         obtain ⟨q3a, q3b, q3d⟩ := txtR_rest hq3 hh2.out
         have hl3 : l3.length ≤ 100000000 := by omega
         have hh3 := Lib.hid q3d
         clear q3d
         have HIR := Lib.hid (HIR.out.trans (by rw [hq3]))
         simp only [Option.bind_some] at HIR
         have HQ3 := Lib.hid hq3
         clear hq3
         go_wp2_with fail
         refine (iText R 13 13 rfl l2 _ CUR.out.rd hl2 hh2.out).mono ?_
         rintro e w5 ⟨hg, hp⟩
         rw [HQ3.out] at hp
         obtain ⟨rfl, hr⟩ := hp
         have CUR2 := Lib.hid (iv_gl CUR.out hg hr HX)
         clear CUR hg hr
         have CUR := CUR2
         clear CUR2
         have f := blk_cell CUR.out.blk
         have ef := blk_free CUR.out.blk
         have f2 : w5.cell? ⟨w.heap.size, 2, none⟩ = some (.string (bs [])) := f 2
         have f3 : w5.cell? ⟨w.heap.size, 3, none⟩ = some (.string (bs [])) := f 3
         have f4 : w5.cell? ⟨w.heap.size, 4, none⟩ = some (.string (bs [])) := f 4
         clear f
         have CUR2 := Lib.hid (iv_set (iv_set (iv_set CUR.out HX (Nat.le_refl _) 2 (.string (bs h)) (y := ⟨0, valB 32 s, h, [], [], 0, 0, []⟩) rfl) HX (Nat.le_refl _) 3 (.string (bs p)) (y := ⟨0, valB 32 s, h, p, [], 0, 0, []⟩) rfl) HX (Nat.le_refl _) 4 (.string (bs m)) (y := ⟨0, valB 32 s, h, p, m, 0, 0, []⟩) rfl)
         go_upto_region 3 with fail
         generalize (((w5.setCell ⟨w.heap.size, 2, none⟩ (.string (bs h))).setCell ⟨w.heap.size, 3, none⟩ (.string (bs p))).setCell ⟨w.heap.size, 4, none⟩ (.string (bs m))) = w5c at *
         clear CUR ef f2 f3 f4
         have CUR := CUR2
         clear CUR2
         cases hq4 : digitsR 6 l3 with
         | none =>
           have HN : Hid (invR l = none) := Lib.hid (by rw [HIR.out, hq4]; rfl)
           have HQ := Lib.hid hq4
           clear hq4
           go_wp2_with fail
           refine (iDigits R 6 6 rfl l3 _ CUR.out.rd om_ hh3.out).mono ?_
           rintro e w2 ⟨hg, hp⟩
           rw [HQ.out] at hp
           have hp : e = .panicked [oddP] := hp
           subst hp
           go_wp2_with fail
           exact ⟨rfl, invO_none HN.out (gl_step hg CUR.out.gl si_)⟩
         | some ar4 =>
           obtain ⟨x, l4⟩ := ar4
           obtain ⟨q4a, q4b, q4d⟩ := digitsR_rest hq4 hh3.out
           have hl4 : l4.length ≤ 100000000 := by omega
           have hh4 := Lib.hid q4d
           clear q4d
           have HIR := Lib.hid (HIR.out.trans (by rw [hq4]))
           simp only [Option.bind_some] at HIR
           have HQ4 := Lib.hid hq4
           clear hq4
           go_wp2_with fail
           refine (iDigits R 6 6 rfl l3 _ CUR.out.rd om_ hh3.out).mono ?_
           rintro e w6 ⟨hg, hp⟩
           rw [HQ4.out] at hp
           obtain ⟨rfl, hr⟩ := hp
           have CUR2 := Lib.hid (iv_gl CUR.out hg hr HX)
           clear CUR hg hr
           have CUR := CUR2
           clear CUR2
           have f := blk_cell CUR.out.blk
           have ef := blk_free CUR.out.blk
           have f5 : w6.cell? ⟨w.heap.size, 5, none⟩ = some (.int .i64 0) := f 5
           clear f
           have CUR2 := Lib.hid (iv_set CUR.out HX (Nat.le_refl _) 5 (.int .i64 (x : Nat)) (y := ⟨0, valB 32 s, h, p, m, x, 0, []⟩) rfl)
           go_upto_region 4 with fail
           generalize (w6.setCell ⟨w.heap.size, 5, none⟩ (.int .i64 (x : Nat))) = w6c at *
           clear CUR ef f5
           have CUR := CUR2
           clear CUR2
           cases hq5 : digitsR 24 l4 with
           | none =>
             have HN : Hid (invR l = none) := Lib.hid (by rw [HIR.out, hq5]; rfl)
             have HQ := Lib.hid hq5
             clear hq5
             go_wp2_with fail
             refine (iDigits R 24 24 rfl l4 _ CUR.out.rd om_ hh4.out).mono ?_
             rintro e w2 ⟨hg, hp⟩
             rw [HQ.out] at hp
             have hp : e = .panicked [oddP] := hp
             subst hp
             go_wp2_with fail
             exact ⟨rfl, invO_none HN.out (gl_step hg CUR.out.gl si_)⟩
           | some ar5 =>
             obtain ⟨d, l5⟩ := ar5
             obtain ⟨q5a, q5b, q5d⟩ := digitsR_rest hq5 hh4.out
             have hl5 : l5.length ≤ 100000000 := by omega
             have hh5 := Lib.hid q5d
             clear q5d
             have HIR := Lib.hid (HIR.out.trans (by rw [hq5]))
             simp only [Option.bind_some] at HIR
             have HQ5 := Lib.hid hq5
             clear hq5
             go_wp2_with fail
             refine (iDigits R 24 24 rfl l4 _ CUR.out.rd om_ hh4.out).mono ?_
             rintro e w7 ⟨hg, hp⟩
             rw [HQ5.out] at hp
             obtain ⟨rfl, hr⟩ := hp
             have CUR2 := Lib.hid (iv_gl CUR.out hg hr HX)
             clear CUR hg hr
             have CUR := CUR2
             clear CUR2
             have f := blk_cell CUR.out.blk
             have ef := blk_free CUR.out.blk
             have f6 : w7.cell? ⟨w.heap.size, 6, none⟩ = some (.int .i64 0) := f 6
             clear f
             have CUR2 := Lib.hid (iv_set CUR.out HX (Nat.le_refl _) 6 (.int .i64 (d : Nat)) (y := ⟨0, valB 32 s, h, p, m, x, d, []⟩) rfl)
             go_upto_region 5 with fail
             generalize (w7.setCell ⟨w.heap.size, 6, none⟩ (.int .i64 (d : Nat))) = w7c at *
             clear CUR ef f6
             have CUR := CUR2
             clear CUR2
             cases hq6 : txtR 16 l5 with
             | none =>
               have HN : Hid (invR l = none) := Lib.hid (by rw [HIR.out, hq6]; rfl)
               have HQ := Lib.hid hq6
               clear hq6
               go_wp2_with fail
               refine (iText R 16 16 rfl l5 _ CUR.out.rd hl5 hh5.out).mono ?_
               rintro e w2 ⟨hg, hp⟩
               rw [HQ.out] at hp
               have hp : e = .panicked [oddP] := hp
               subst hp
               go_wp2_with fail
               exact ⟨rfl, invO_none HN.out (gl_step hg CUR.out.gl si_)⟩
             | some ar6 =>
               obtain ⟨g, l6⟩ := ar6
               obtain ⟨q6a, q6b, q6d⟩ := txtR_rest hq6 hh5.out
               have hl6 : l6.length ≤ 100000000 := by omega
               have hh6 := Lib.hid q6d
               clear q6d
               have HIR := Lib.hid (HIR.out.trans (by rw [hq6]))
               simp only [Option.bind_some] at HIR
               have HQ6 := Lib.hid hq6
               clear hq6
               go_wp2_with fail
               refine (iText R 16 16 rfl l5 _ CUR.out.rd hl5 hh5.out).mono ?_
               rintro e w8 ⟨hg, hp⟩
               rw [HQ6.out] at hp
               obtain ⟨rfl, hr⟩ := hp
               have CUR2 := Lib.hid (iv_gl CUR.out hg hr HX)
               clear CUR hg hr
               have CUR := CUR2
               clear CUR2
               have f := blk_cell CUR.out.blk
               have ef := blk_free CUR.out.blk
               have f7 : w8.cell? ⟨w.heap.size, 7, none⟩ = some (.string (bs [])) := f 7
               clear f
               have CUR2 := Lib.hid (iv_set CUR.out HX (Nat.le_refl _) 7 (.string (bs g)) (y := ⟨0, valB 32 s, h, p, m, x, d, g⟩) rfl)
               go_upto_region 6 with fail
               generalize (w8.setCell ⟨w.heap.size, 7, none⟩ (.string (bs g))) = w8c at *
               clear CUR ef f7
               have CUR := CUR2
               clear CUR2
               have hvs : valB 32 s < 34359738368 := by
                have := valB_lt (b := 32) s HS.out
                rw [q0a] at this
                exact this
               have HOK : Hid (InvOk ⟨0, valB 32 s, h, p, m, x, d, g⟩) := Lib.hid ⟨sx_, sx_, sx_, sx_, sx_, sx_, sx_, sx_, sx_, sx_, sx_, sx_⟩
               have HG8 : Hid (GOk w8c) := Lib.hid (gok_gl HG.out CUR.out.gl (by simp; exact hR))
               have hbk : w8c.heap[w.heap.size]? = some (.cells #[.int .i64 0, .int .i64 (valB 32 s : Nat), .string (bs h), .string (bs p), .string (bs m), .int .i64 (x : Nat), .int .i64 (d : Nat), .string (bs g)] 31 (0, 0)) := CUR.out.blk
               have f8 := blk_cell hbk
               obtain ⟨ad8, c8, h81, h82⟩ := CUR.out.rd
               have r8 := blk_cell h81 0
               clear h81 h82 q0a q0b
               have HGL := Lib.hid CUR.out.gl
               have HBK := Lib.hid hbk
               clear hbk
               by_cases hl6 : l6 = []
               · subst hl6
                 cases hm : mayI ⟨0, valB 32 s, h, p, m, x, d, g⟩ with
                 | false =>
                   have HN : Hid (invR l = none) := Lib.hid (by rw [HIR.out, hm]; simp)
                   have HM := Lib.hid hm
                   clear hm
                   go_wp2_with fail
                   refine (iMay ⟨0, valB 32 s, h, p, m, x, d, g⟩ HOK.out _ HG8.out).mono ?_
                   rintro e w9 ⟨rfl, hb9⟩
                   rw [HM.out]
                   go_wp2_with fail
                   exact ⟨rfl, invO_none HN.out (gl_below hb9 HGL.out)⟩
                 | true =>
                   have HN : Hid (invR l = some ⟨0, valB 32 s, h, p, m, x, d, g⟩) := Lib.hid (by rw [HIR.out, hm]; simp)
                   have HM := Lib.hid hm
                   clear hm
                   go_wp2_with fail
                   refine (iMay ⟨0, valB 32 s, h, p, m, x, d, g⟩ HOK.out _ HG8.out).mono ?_
                   rintro e w9 ⟨rfl, hb9⟩
                   rw [HM.out]
                   have HB9 := Lib.hid (blk_below HBK.out hb9 (blk_lt HBK.out))
                   have HL9 := Lib.hid (gl_below hb9 HGL.out)
                   clear hb9 f8 r8
                   have f9 := blk_cell HB9.out
                   have e9 := blk_free HB9.out
                   go_wp2_with fail
                   have hB10 : ((((((((w9.setCell ⟨w.heap.size, 0, none⟩ (.int .i64 0)).setCell ⟨w.heap.size, 1, none⟩ (.int .i64 (valB 32 s : Nat))).setCell ⟨w.heap.size, 2, none⟩ (.string (bs h))).setCell ⟨w.heap.size, 3, none⟩ (.string (bs p))).setCell ⟨w.heap.size, 4, none⟩ (.string (bs m))).setCell ⟨w.heap.size, 5, none⟩ (.int .i64 (x : Nat))).setCell ⟨w.heap.size, 6, none⟩ (.int .i64 (d : Nat))).setCell ⟨w.heap.size, 7, none⟩ (.string (bs g))).heap[w.heap.size]? = some (.cells #[.int .i64 0, .int .i64 (valB 32 s : Nat), .string (bs h), .string (bs p), .string (bs m), .int .i64 (x : Nat), .int .i64 (d : Nat), .string (bs g)] 31 (0, 0)) := (blk_set (blk_set (blk_set (blk_set (blk_set (blk_set (blk_set (blk_set HB9.out 0 (.int .i64 0)) 1 (.int .i64 (valB 32 s : Nat))) 2 (.string (bs h))) 3 (.string (bs p))) 4 (.string (bs m))) 5 (.int .i64 (x : Nat))) 6 (.int .i64 (d : Nat))) 7 (.string (bs g)))
                   have HL10 : Hid (GL [R] w ((((((((w9.setCell ⟨w.heap.size, 0, none⟩ (.int .i64 0)).setCell ⟨w.heap.size, 1, none⟩ (.int .i64 (valB 32 s : Nat))).setCell ⟨w.heap.size, 2, none⟩ (.string (bs h))).setCell ⟨w.heap.size, 3, none⟩ (.string (bs p))).setCell ⟨w.heap.size, 4, none⟩ (.string (bs m))).setCell ⟨w.heap.size, 5, none⟩ (.int .i64 (x : Nat))).setCell ⟨w.heap.size, 6, none⟩ (.int .i64 (d : Nat))).setCell ⟨w.heap.size, 7, none⟩ (.string (bs g)))) := Lib.hid (gl_set (gl_set (gl_set (gl_set (gl_set (gl_set (gl_set (gl_set HL9.out (.inr (Nat.le_refl _)) (.int .i64 0)) (.inr (Nat.le_refl _)) (.int .i64 (valB 32 s : Nat))) (.inr (Nat.le_refl _)) (.string (bs h))) (.inr (Nat.le_refl _)) (.string (bs p))) (.inr (Nat.le_refl _)) (.string (bs m))) (.inr (Nat.le_refl _)) (.int .i64 (x : Nat))) (.inr (Nat.le_refl _)) (.int .i64 (d : Nat))) (.inr (Nat.le_refl _)) (.string (bs g)))
                   generalize ((((((((w9.setCell ⟨w.heap.size, 0, none⟩ (.int .i64 0)).setCell ⟨w.heap.size, 1, none⟩ (.int .i64 (valB 32 s : Nat))).setCell ⟨w.heap.size, 2, none⟩ (.string (bs h))).setCell ⟨w.heap.size, 3, none⟩ (.string (bs p))).setCell ⟨w.heap.size, 4, none⟩ (.string (bs m))).setCell ⟨w.heap.size, 5, none⟩ (.int .i64 (x : Nat))).setCell ⟨w.heap.size, 6, none⟩ (.int .i64 (d : Nat))).setCell ⟨w.heap.size, 7, none⟩ (.string (bs g))) = w10 at *
                   have f10 := blk_cell hB10
                   clear hB10 f9 e9
                   exact bodyPost_ret (v := invV ⟨0, valB 32 s, h, p, m, x, d, g⟩) (by simp [results, Tryz.results54, go_sem, f10, invV]) rfl (invO_some HN.out HL10.out rfl)
               · have HN : Hid (invR l = none) := Lib.hid (by rw [HIR.out, if_neg (fun h => hl6 h.1)])
                 have hpos2 : 0 < l6.length := List.length_pos_iff.2 hl6
                 have hpos : (0 : Int) < l6.length := by omega
                 clear hl6
                 go_wp2_with fail
                 exact ⟨rfl, invO_none HN.out HGL.out⟩
end Go.Proofs.YtembdkodajichaaGreatDoor
