/- The reference of layer 7: an invoice's words. -/
import Derived.Test.YtembdkodajichaaGreatDoorR7J
import Derived.Test.YtembdkodajichaaGreatDoorInvW
import Derived.Test.YtembdkodajichaaGreatDoorRegT
import Derived.Test.YtembdkodajichaaGreatDoorAmtQ
set_option maxRecDepth 100000
set_option maxHeartbeats 4000000
set_option linter.unusedSimpArgs false
set_option linter.unusedVariables false
namespace Go.Proofs.YtembdkodajichaaGreatDoor
open Go.RowKit
def NmO (R : Nat) (o : Option (Nat × List UInt8)) (w : World) (e : Ending) (w' : World) : Prop :=
 GL [R] w w' ∧ RO R (o.map (·.2)) w' ∧ e = .returned (.int .i64 ((o.map (·.1)).getD 0 : Nat))
theorem zhF_ {R : Nat} {o : Option (Nat × List UInt8)} {w w' : World} (h : o = none) (hg : GL [R] w w') (hr : RO R none w') : NmO R o w (.returned (.int .i64 0)) w' := by
 subst h; exact ⟨hg, hr, rfl⟩
theorem zkI_ {R : Nat} {o : Option (Nat × List UInt8)} {w w' : World} {n : Nat} {r : List UInt8} {v : Int} (h : o = some (n, r)) (hg : GL [R] w w') (hv : v = n) (h2 : RO R (some r) w') : NmO R o w (.returned (.int .i64 v)) w' := by
 subst h hv; exact ⟨hg, h2, rfl⟩
theorem zkJ_ {R : Nat} {o : Option (List UInt8)} {w : World} (h : RO R o w) : RO R none (w.setCell ⟨R, 1, none⟩ (.bool false)) := by
 obtain ⟨ad, n, c, h1, _⟩ := h
 exact zeU_ (by have := z3_ h1 1 (.bool false); simpa using this)
theorem zkK_ {R : Nat} {o : Option (List UInt8)} {w : World} (h : RO R o w) : ∃ ad n c, w.cell? ⟨R, 0, none⟩ = some (.slice ad n c) ∧ w.cell? ⟨R, 1, none⟩ = some (.bool o.isSome) ∧ (∀ j, j < 2 → w.frozen? ⟨R, j, none⟩ = false) := by
 obtain ⟨ad, n, c, h1, _⟩ := h
 refine ⟨ad, n, c, z0_ h1 0, z0_ h1 1, fun j hj => ?_⟩
 exact z8_ h1 j
theorem zkL_ (R : Nat) (tag : UInt8) (T : Int) (hT : T = tag.toNat) (o : Option (List UInt8)) (w : World) (h : RO R o w) (hl : ∀ l, o = some l → l.length ≤ 1000000000 ∧ ∀ x ∈ l, x.toNat < 32) :
  Calls Tryz.prog 58 #[.pointer (some ⟨R, 0, none⟩), .int .u8 T] w (NmO R (o.bind (k5_ tag)) w) := by
 subst hT
 have HH := Lib.hid h
 have HL := Lib.hid hl
 clear h hl
 have HCALL := Lib.hid (zkH_ R tag _ rfl o w HH.out (fun l h => (HL.out l h).1))
 cases hf : o.bind (zaH_ tag) with
 | none =>
   rw [hf] at HCALL
   have HF : Hid (o.bind (k5_ tag) = none) := Lib.hid (by
    cases o with
    | none => rfl
    | some l => rw [zea_] at hf ⊢; unfold k5_; rw [hf]; rfl)
   clear hf
   go_enter Tryz.func58, Tryz.ntmps58
   go_wp2_with fail
   refine HCALL.out.mono ?_
   rintro e w1 ⟨hg, hr, ad, c, he, _⟩
   have he : e = .returned (.slice ad 0 c) := he
   subst he
   have HG := Lib.hid hg
   have HR : Hid (RO R none w1) := Lib.hid hr
   clear hg hr
   go_wp2_with fail
   go_loopw [6, 7] (fun nv iv wr => nv = .int .i64 0 ∧ iv = .int .i64 0 ∧ Hid (wr = w1)) (fun _ _ _ => 0)
   case atStart => exact ⟨rfl, rfl, Lib.hid rfl⟩
   case round =>
    obtain ⟨rfl, rfl, hw⟩ := hrel
    have hw2 := hw.out
    subst hw2
    go_wp2_with fail
    exact bodyPost_ret (v := .int .i64 0) (by simp [results, Tryz.results58, go_sem]) rfl (zhF_ HF.out HG.out HR.out)
 | some ar =>
   obtain ⟨a, r⟩ := ar
   obtain ⟨l, rfl, hfl⟩ := Option.bind_eq_some_iff.1 hf
   obtain ⟨h1, h2, h3⟩ := zfH_ hfl (HL.out l rfl).2
   have hll := (HL.out l rfl).1
   have hal : a.length ≤ 1000000000 := by omega
   rw [hf] at HCALL
   have HD : Hid ((some l).bind (k5_ tag) = if a.head? = some 0 ∨ 7 < a.length then none else some (y3_ 32 a, r)) := Lib.hid (by rw [zea_]; unfold k5_; rw [hfl]; rfl)
   have H32 := Lib.hid h2
   clear hf hfl h2 h3 h1
   go_enter Tryz.func58, Tryz.ntmps58
   go_wp2_with fail
   refine HCALL.out.mono ?_
   rintro e w1 ⟨hg, hr, ad, c, he, hin⟩
   have he : e = .returned (.slice ad a.length c) := he
   have hin : x8_ (.slice ad a.length c) a w1 := hin
   have hr : RO R (some r) w1 := hr
   subst he
   have HG := Lib.hid hg
   have HR := Lib.hid hr
   have HIN := Lib.hid hin
   obtain ⟨ad2, n2, c2, f0, f1, ef⟩ := zkK_ hr
   have e1 := ef 1 om_
   have HGK : Hid (GL [R] w (w1.setCell ⟨R, 1, none⟩ (.bool false))) := Lib.hid (z2_ hg (.inl si_) _)
   have HRK := Lib.hid (zkJ_ hr)
   clear hg hr hin ef
   by_cases h7 : 7 < a.length
   · rw [if_pos (.inr h7)] at HD
     have n1 : decide ((7 : Int) < a.length) = true := by simp; omega
     clear h7
     go_wp2_with fail
     exact bodyPost_ret (v := .int .i64 0) (by simp [results, Tryz.results58, go_sem]) rfl (zhF_ HD.out HGK.out HRK.out)
   · have n1 : decide ((7 : Int) < a.length) = false := by simp; omega
     have h7' : a.length ≤ 7 := by omega
     by_cases ha : a = []
     · subst ha
       rw [if_neg si_] at HD
       clear HGK HRK f0 f1 e1 h7
       go_wp2_with fail
       go_loopw [6, 7] (fun nv iv wr => nv = .int .i64 0 ∧ iv = .int .i64 0 ∧ Hid (wr = w1)) (fun _ _ _ => 0)
       case atStart => exact ⟨rfl, rfl, Lib.hid rfl⟩
       case round =>
        obtain ⟨rfl, rfl, hw⟩ := hrel
        have hw2 := hw.out
        subst hw2
        go_wp2_with fail
        exact bodyPost_ret (v := .int .i64 0) (by simp [results, Tryz.results58, go_sem]) rfl (zkI_ HD.out HG.out rfl HR.out)
     · obtain ⟨G, o, rfl, _, hj⟩ := zd2_ HIN.out ha
       have hpos := List.length_pos_iff.2 ha
       have c0 := hj 0 hpos
       rw [Nat.add_zero] at c0
       have a1 : decide ((0 : Int) < a.length) = true := by simp; omega
       have HD : Hid ((some l).bind (k5_ tag) = if (a.getD 0 0).toNat = 0 ∨ 7 < a.length then none else some (y3_ 32 a, r)) := Lib.hid (by rw [HD.out]; simp only [zjt_ a ha])
       have HJ := Lib.hid hj
       generalize (a.getD 0 0).toNat = x at *
       clear hj
       by_cases hx : x = 0
       · subst hx
         rw [if_pos (.inl rfl)] at HD
         clear h7 HJ
         go_wp2_with fail
         exact bodyPost_ret (v := .int .i64 0) (by simp [results, Tryz.results58, go_sem]) rfl (zhF_ HD.out HGK.out HRK.out)
       · have hx1 : (((x : Nat) : Int) == 0) = false := by simp; omega
         rw [if_neg (by simp only [not_or]; exact ⟨hx, h7⟩)] at HD
         clear hx h7 HGK HRK f0 f1 e1
         go_wp2_with fail
         go_loopw [6, 7] (fun nv iv wr => ∃ i : Nat, i ≤ a.length ∧ iv = .int .i64 i ∧ nv = .int .i64 (y3_ 32 (a.take i) : Nat) ∧ Hid (wr = w1)) (fun _ iv _ => a.length - (intOf iv).toNat)
         case atStart => exact ⟨0, by omega, rfl, by simp [ze9_], Lib.hid rfl⟩
         case round =>
          obtain ⟨i, hi, rfl, rfl, hw⟩ := hrel
          have hww := hw.out
          subst hww
          by_cases hlt : i < a.length
          · have i1 : decide ((i : Int) < a.length) = true := by simp; omega
            have i2 : (i : Int) < a.length := by omega
            have i0 : (0 : Int) ≤ i := by omega
            have hx := H32.out (a.getD i 0) (by rw [List.getD_eq_getElem?_getD, List.getElem?_eq_getElem hlt]; exact List.getElem_mem hlt)
            have cj := HJ.out i hlt
            have HV := Lib.hid (zeF_ 32 a i hlt)
            have hV : y3_ 32 (a.take i) < 1073741824 := by
             have := zcR_ (b := 32) (a.take i) (fun x hx => H32.out x (List.mem_of_mem_take hx))
             have h2 : (a.take i).length ≤ 6 := by rw [List.length_take]; omega
             exact Nat.lt_of_lt_of_le this (Nat.le_trans (Nat.pow_le_pow_right om_ h2) de_)
            generalize y3_ 32 (a.take i) = V at *
            generalize (a.getD i 0).toNat = y at *
            have hw1 : IntKind.i64.wrap (y : Int) = y := by rw [IntKind.wrap_i64]; omega
            have hw2 : IntKind.i64.wrap ((V : Int) * 32) = (V : Int) * 32 := by rw [IntKind.wrap_i64]; omega
            have hw3 : IntKind.i64.wrap ((V : Int) * 32 + y) = (V : Int) * 32 + y := by rw [IntKind.wrap_i64]; omega
            go_wp2_with fail
            exact ⟨⟨i + 1, by omega, by go_num, by rw [HV.out]; go_num, by first | exact Lib.hid rfl | exact Lib.hid trivial⟩, by simp [intOf]; omega⟩
          · obtain rfl : i = a.length := by omega
            have i1 : decide ((a.length : Int) < a.length) = false := by simp
            have HT : Hid (y3_ 32 (a.take a.length) = y3_ 32 a) := Lib.hid (by rw [List.take_length])
            generalize y3_ 32 (a.take a.length) = V at *
            clear hlt
            go_wp2_with fail
            exact bodyPost_ret (v := .int .i64 (V : Nat)) (by simp [results, Tryz.results58, go_sem]) rfl (zkI_ HD.out HG.out (by rw [HT.out]) HR.out)
def TxO (R : Nat) (o : Option (List UInt8 × List UInt8)) (w : World) (e : Ending) (w' : World) : Prop :=
 GL [R] w w' ∧ RO R (o.map (·.2)) w' ∧ e = .returned (.string (bs (valR o)))
theorem zkM_ {R : Nat} {o : Option (List UInt8 × List UInt8)} {w w' : World} (h : o = none) (hg : GL [R] w w') (hr : RO R none w') : TxO R o w (.returned (.string (bs []))) w' := by
 subst h; exact ⟨hg, hr, rfl⟩
theorem zry_ {R : Nat} {o : Option (List UInt8 × List UInt8)} {w w' : World} {n r : List UInt8} (h : o = some (n, r)) (hg : GL [R] w w') (h2 : RO R (some r) w') : TxO R o w (.returned (.string (bs n))) w' := by
 subst h; exact ⟨hg, h2, rfl⟩
theorem zrz_ : w7_ 5 8 false [] = some [] := by decide
theorem zfZ_ (R : Nat) (tag : UInt8) (T : Int) (hT : T = tag.toNat) (o : Option (List UInt8)) (w : World) (h : RO R o w) (hl : ∀ l, o = some l → l.length ≤ 100000 ∧ ∀ x ∈ l, x.toNat < 32) :
  Calls Tryz.prog 57 #[.pointer (some ⟨R, 0, none⟩), .int .u8 T] w (TxO R (o.bind (v2_ tag)) w) := by
 subst hT
 have HH := Lib.hid h
 have HL := Lib.hid hl
 clear h hl
 have HCALL := Lib.hid (zkH_ R tag _ rfl o w HH.out (fun l h => by have := (HL.out l h).1; omega))
 cases hf : o.bind (zaH_ tag) with
 | none =>
   rw [hf] at HCALL
   have HF : Hid (o.bind (v2_ tag) = none) := Lib.hid (by
    cases o with
    | none => rfl
    | some l => rw [zea_] at hf ⊢; unfold v2_; rw [hf]; rfl)
   clear hf
   go_enter Tryz.func57, Tryz.ntmps57
   go_wp2_with fail
   refine HCALL.out.mono ?_
   rintro e w1 ⟨hg, hr, ad, c, he, hin⟩
   have he : e = .returned (.slice ad 0 c) := he
   have hin : x8_ (.slice ad 0 c) [] w1 := hin
   subst he
   have HG := Lib.hid hg
   have HR : Hid (RO R none w1) := Lib.hid hr
   have HIN := Lib.hid hin
   clear hg hr hin
   go_wp2_with fail
   refine (zkE_ [] _ _ HIN.out si_).mono ?_
   rintro e w2 ⟨he, hb⟩
   have HG2 : Hid (GL [R] w w2) := Lib.hid (y6_ hb HG.out)
   have HR2 := Lib.hid (zfW_ HR.out (y6_ hb (y1_ _ _)))
   rw [zrz_] at he
   obtain ⟨ad2, c2, rfl, hown⟩ := he
   have hcv : (convert 47 9 (.slice ad2 0 c2)).run Tryz.prog w2 = .ok (.string (bs [])) w2 := zeE_ 9 Tryz.underlying9 _ [] w2 (zaT_ hown).1
   clear hb hown
   go_wp2_with fail
   exact bodyPost_ret (v := .string (bs [])) (by simp [results, Tryz.results57, go_sem]) rfl (zkM_ HF.out HG2.out HR2.out)
 | some ar =>
   obtain ⟨a, r⟩ := ar
   obtain ⟨l, rfl, hfl⟩ := Option.bind_eq_some_iff.1 hf
   obtain ⟨h1, h2, h3⟩ := zfH_ hfl (HL.out l rfl).2
   have hll := (HL.out l rfl).1
   rw [hf] at HCALL
   have HD : Hid ((some l).bind (v2_ tag) = (w7_ 5 8 false a).bind fun b => some (b, r)) := Lib.hid (by rw [zea_]; unfold v2_; rw [hfl]; rfl)
   have hal : a.length ≤ 100000 := by omega
   clear hf hfl h2 h3 h1
   go_enter Tryz.func57, Tryz.ntmps57
   go_wp2_with fail
   refine HCALL.out.mono ?_
   rintro e w1 ⟨hg, hr, ad, c, he, hin⟩
   have he : e = .returned (.slice ad a.length c) := he
   have hin : x8_ (.slice ad a.length c) a w1 := hin
   have hr : RO R (some r) w1 := hr
   subst he
   have HG := Lib.hid hg
   have HR := Lib.hid hr
   have HIN := Lib.hid hin
   clear hg hr hin
   go_wp2_with fail
   refine (zkE_ a _ _ HIN.out hal).mono ?_
   rintro e w2 ⟨he, hb⟩
   have hg2 := y6_ hb HG.out
   have HG2 := Lib.hid hg2
   have hr2 := zfW_ HR.out (y6_ hb (y1_ _ _))
   have HR2 := Lib.hid hr2
   cases hq : w7_ 5 8 false a with
   | none =>
     rw [hq] at he HD
     have he : e = .returned (.tuple #[.slice none 0 0, .int .i64 50]) := he
     subst he
     obtain ⟨ad2, n2, c2, f0, f1, ef⟩ := zkK_ hr2
     have e1 := ef 1 om_
     have HGK : Hid (GL [R] w (w2.setCell ⟨R, 1, none⟩ (.bool false))) := Lib.hid (z2_ hg2 (.inl si_) _)
     have HRK := Lib.hid (zkJ_ hr2)
     have hcv := zeE_ 9 Tryz.underlying9 (.slice none 0 0) [] (w2.setCell ⟨R, 1, none⟩ (.bool false)) (zkF_ _)
     clear hq hb hg2 hr2 ef
     go_wp2_with fail
     exact bodyPost_ret (v := .string (bs [])) (by simp [results, Tryz.results57, go_sem]) rfl (zkM_ HD.out HGK.out HRK.out)
   | some b =>
     rw [hq] at he HD
     obtain ⟨ad2, c2, rfl, hown⟩ := he
     have hcv := zeE_ 9 Tryz.underlying9 _ b w2 (zaT_ hown).1
     clear hq hb hown hg2 hr2
     go_wp2_with fail
     exact bodyPost_ret (v := .string (bs b)) (by simp [results, Tryz.results57, go_sem]) rfl (zry_ HD.out HG2.out HR2.out)
def zaa_ {α : Type} (f : List UInt8 → Option (α × List UInt8)) (o : Option (List UInt8)) : Option (List UInt8) := (o.bind f).map (·.2)
def gotO {α : Type} (d : α) (f : List UInt8 → Option (α × List UInt8)) (o : Option (List UInt8)) : α := ((o.bind f).map (·.1)).getD d
theorem zrA_ (l : List UInt8) : ∀ o0 o1 o2 o3 o4 o5 o6, o0 = zaa_ (q8_ 7) (some l) → o1 = zaa_ (v2_ 1) o0 → o2 = zaa_ (v2_ 19) o1 → o3 = zaa_ (v2_ 13) o2 → o4 = zaa_ (k5_ 6) o3 → o5 = zaa_ (k5_ 24) o4 → o6 = zaa_ (v2_ 16) o5 →
  ∀ x : Inv, x = ⟨0, y3_ 32 (gotO [] (q8_ 7) (some l)), gotO [] (v2_ 1) o0, gotO [] (v2_ 19) o1, gotO [] (v2_ 13) o2, ((gotO 0 (k5_ 6) o3 : Nat) : Int), ((gotO 0 (k5_ 24) o4 : Nat) : Int), gotO [] (v2_ 16) o5⟩ →
  invR l = if o6 = some [] ∧ w3_ x = true then some x else none := by
 rintro o0 o1 o2 o3 o4 o5 o6 rfl rfl rfl rfl rfl rfl rfl x rfl
 unfold invR
 cases h0 : q8_ 7 l with
 | none => simp [zaa_, h0]
 | some a0 =>
   obtain ⟨s, l0⟩ := a0
   simp only [Option.bind_some]
   cases h1 : v2_ 1 l0 with
   | none => simp [zaa_, h0, h1]
   | some a1 =>
     obtain ⟨h, l1⟩ := a1
     simp only [Option.bind_some]
     cases h2 : v2_ 19 l1 with
     | none => simp [zaa_, h0, h1, h2]
     | some a2 =>
       obtain ⟨p, l2⟩ := a2
       simp only [Option.bind_some]
       cases h3 : v2_ 13 l2 with
       | none => simp [zaa_, h0, h1, h2, h3]
       | some a3 =>
         obtain ⟨m, l3⟩ := a3
         simp only [Option.bind_some]
         cases h4 : k5_ 6 l3 with
         | none => simp [zaa_, h0, h1, h2, h3, h4]
         | some a4 =>
           obtain ⟨ex, l4⟩ := a4
           simp only [Option.bind_some]
           cases h5 : k5_ 24 l4 with
           | none => simp [zaa_, h0, h1, h2, h3, h4, h5]
           | some a5 =>
             obtain ⟨d, l5⟩ := a5
             simp only [Option.bind_some]
             cases h6 : v2_ 16 l5 with
             | none => simp [zaa_, h0, h1, h2, h3, h4, h5, h6]
             | some a6 =>
               obtain ⟨g, l6⟩ := a6
               simp [zaa_, gotO, h0, h1, h2, h3, h4, h5, h6]
theorem zkN_ (x : Inv) : ∀ (i : Nat) (n : Int), (q4_ x)[i]? ≠ some (Value.int .u8 n) := by
 intro i n
 match i with
 | 0 | 1 | 2 | 3 | 4 | 5 | 6 | 7 => simp [q4_]
 | k + 8 => simp [q4_]
theorem zrB_ {R X : Nat} {o : Option (List UInt8)} {w : World} {cs : Array Value} {T : Nat} {fz : Nat × Nat} (h : RO R o w) (hX : w.heap[X]? = some (.cells cs T fz)) (hRX : X ≠ R) (j : Nat) (v : Value) (hall : ∀ (i : Nat) (n : Int), cs[i]? ≠ some (Value.int .u8 n)) : RO R o (w.setCell ⟨X, j, none⟩ v) := by
 obtain ⟨ad, n, c, h1, h2⟩ := h
 refine ⟨ad, n, c, v0_ h1 (fun e => hRX e.symm) _, fun l hl => ?_⟩
 obtain ⟨a', c', e, hc, hb⟩ := j6_ (h2 l hl)
 injection e with e1 e2 e3
 subst e1 e2 e3
 refine zbQ_ rfl hc fun hn => ?_
 obtain ⟨G, o, rfl, hB, hj⟩ := hb hn
 refine ⟨G, o, rfl, zbf_ (rs := [X]) ⟨hB, hj⟩ (z2_ (y1_ _ _) (.inl si_) _) (fun hm => ?_)⟩
 obtain rfl : G = X := by simpa using hm
 have h0 := hj 0 (List.length_pos_iff.2 hn)
 rw [z0_ hX] at h0
 exact hall _ _ h0
theorem zrC_ (a b : UInt8) : (((a.toNat : Int)) != (b.toNat : Int)) = (a != b) := by
 rw [Bool.eq_iff_iff, bne_iff_ne, bne_iff_ne, ne_eq, ne_eq, Int.ofNat_inj, UInt8.toNat_inj]
theorem zrD_ {m : Int} (h : m < 0 ∨ 2100000000000000000 < m) : k3_ m = [] ∧ zah_ m = 40 := by
 constructor
 · unfold k3_; rw [if_pos (by unfold k6_; omega)]
 · unfold zah_; rw [if_pos (by unfold k6_; omega)]
theorem zrE_ {m : Int} (h0 : 0 ≤ m) (h1 : m ≤ 2100000000000000000) : zah_ m = 0 := by unfold zah_; rw [if_neg (by unfold k6_; omega)]
theorem zrF_ {m : Nat} (h0 : 0 < m) (h1 : m ≤ 2100000000000000000) : k3_ (m : Int) = k8_ m unitL := by
 unfold k3_
 rw [if_neg (by unfold k6_; omega)]
 rfl
theorem zrG_ {s : List UInt8} {i : Nat} (hi : i < s.length) (h : x7_ s[i] = false) : s.all x7_ = false := by
 rw [List.all_eq_false]
 exact ⟨s[i], List.getElem_mem hi, by rw [h]; simp⟩
theorem zrH_ {s : List UInt8} (h : ∀ j, (hj : j < s.length) → x7_ s[j] = true) : s.all x7_ = true := by
 rw [List.all_eq_true]
 intro x hx
 obtain ⟨j, hj, rfl⟩ := List.getElem_of_mem hx
 exact h j hj
theorem zal_ (s : List UInt8) (hs : s.length ≤ 1000000) (w : World) :
  Calls Tryz.prog 34 #[.string (bs s)] w fun e w' => e = .returned (.bool (q3_ s)) ∧ w' = w := by
 go_enter Tryz.func34, Tryz.ntmps34
 go_wp2_with fail
 go_loopw [3] (fun iv wr => ∃ i : Nat, i ≤ s.length ∧ iv = .int .i64 i ∧ Hid (∀ j, (hj : j < s.length) → j < i → x7_ s[j] = true) ∧ Hid (wr = w)) (fun iv _ => s.length - (intOf iv).toNat)
 case atStart => exact ⟨0, by omega, rfl, Lib.hid (fun j _ h => by omega), Lib.hid rfl⟩
 case round =>
  obtain ⟨i, hi, rfl, HA, hw⟩ := hrel
  obtain rfl := hw.out
  clear hw
  by_cases hlt : i < s.length
  · have hix : ∀ W, (Instr.index 9 (.string (bs s)) (.int .i64 (i : Int))).run Tryz.prog W = .ok (.int .u8 ((s[i]).toNat : Nat)) W := fun W => by rw [zag_ W .i64 s i hlt, zak_ hlt]
    have hi0 : (0 : Int) ≤ i := by omega
    cases hd : x7_ s[i] with
    | false =>
      have HW : Hid (q3_ s = false) := Lib.hid (by unfold q3_; rw [zrG_ hlt hd]; rfl)
      have hcase : s[i].toNat < 48 ∨ 57 < s[i].toNat := by
       unfold x7_ at hd
       simp only [Bool.and_eq_false_iff, decide_eq_false_iff_not] at hd
       omega
      clear hd HA
      generalize s[i].toNat = c at *
      rcases hcase with hc | hc
      · have h1 : decide ((c : Int) < 48) = true := by simp; omega
        go_wp2_with fail
        exact bodyPost_ret (v := .bool false) (by simp [results, Tryz.results34, go_sem]) rfl ⟨by rw [HW.out], rfl⟩
      · have h1 : decide ((c : Int) < 48) = false := by simp; omega
        have h2 : decide ((57 : Int) < c) = true := by simp; omega
        go_wp2_with fail
        exact bodyPost_ret (v := .bool false) (by simp [results, Tryz.results34, go_sem]) rfl ⟨by rw [HW.out], rfl⟩
    | true =>
      have HA2 : Hid (∀ j, (hj : j < s.length) → j < i + 1 → x7_ s[j] = true) := Lib.hid (fun j hj h => by
       by_cases e : j = i
       · subst e; exact hd
       · exact HA.out j hj om_)
      have hcase : 48 ≤ s[i].toNat ∧ s[i].toNat ≤ 57 := by simpa [x7_] using hd
      clear hd HA
      generalize s[i].toNat = c at *
      have h1 : decide ((c : Int) < 48) = false := by simp; omega
      have h2 : decide ((57 : Int) < c) = false := by simp; omega
      go_wp2_with fail
      exact ⟨⟨i + 1, by omega, by go_num, HA2, Lib.hid trivial⟩, by simp [intOf]; omega⟩
  · obtain rfl : i = s.length := by omega
    have hall := zrH_ (fun j hj => HA.out j hj hj)
    clear HA
    by_cases h0 : s = []
    · subst h0
      go_wp2_with fail
      exact bodyPost_ret (v := .bool false) (by simp [results, Tryz.results34, go_sem]) rfl ⟨rfl, rfl⟩
    · have hlen : 0 < s.length := List.length_pos_iff.2 h0
      have hix : ∀ W, (Instr.index 9 (.string (bs s)) (.int .i64 0)).run Tryz.prog W = .ok (.int .u8 ((head s).toNat : Nat)) W := fun W => by
       have h := zag_ W .i64 s 0 hlen
       cases s with
       | nil => exact absurd rfl h0
       | cons a r => exact h
      have HW : Hid (q3_ s = (head s != 48)) := Lib.hid (by unfold q3_; rw [hall, show (s != []) = true by simpa using h0]; simp)
      have h48 : (((head s).toNat : Int) != 48) = (head s != 48) := zrC_ (head s) 48
      have hem : s.isEmpty = false := by simpa using h0
      clear hall
      go_wp2_with fail
      exact bodyPost_ret (v := .bool (head s != 48)) (by simp [results, Tryz.results34, go_sem, h48, hem]) rfl ⟨by rw [HW.out], rfl⟩
def zeb_ : Array Value := #[.int .i64 100000000000, .int .i64 100000000, .int .i64 100000, .int .i64 100]
def zec_ : Array Value := #[.string (bs []), .string (bs [109]), .string (bs [117]), .string (bs [110])]
theorem zrI_ (m : Int) (hm0 : -9223372036854775808 ≤ m) (hm1 : m ≤ 9223372036854775807) (w : World) :
  Calls Tryz.prog 11 #[.int .i64 m] w fun e w' => e = .returned (.tuple #[.string (bs (k3_ m)), .int .i64 (zah_ m)]) ∧ Below w.heap.size w w' := by
 by_cases hbad : m < 0 ∨ 2100000000000000000 < m
 · have HA := Lib.hid (zrD_ hbad)
   rcases hbad with h | h
   · go_enter Tryz.func11, Tryz.ntmps11
     go_wp2_with fail
     exact bodyPost_ret (v := .tuple #[.string (bs []), .int .i64 40]) (by simp [results, Tryz.results11, go_sem]) rfl ⟨by rw [HA.out.1, HA.out.2], bl_⟩
   · go_enter Tryz.func11, Tryz.ntmps11
     go_wp2_with fail
     exact bodyPost_ret (v := .tuple #[.string (bs []), .int .i64 40]) (by simp [results, Tryz.results11, go_sem]) rfl ⟨by rw [HA.out.1, HA.out.2], bl_⟩
 · by_cases hz : m = 0
   · subst hz
     go_enter Tryz.func11, Tryz.ntmps11
     go_wp2_with fail
     go_ret2
     exact ⟨rfl, bl_⟩
   · obtain ⟨n, rfl⟩ : ∃ n : Nat, m = n := ⟨m.toNat, by omega⟩
     have hn0 : 0 < n := by omega
     have hn1 : n ≤ 2100000000000000000 := by omega
     have HE := Lib.hid (zrE_ om_ om_ : zah_ (n : Int) = 0)
     have HT := Lib.hid (zrF_ hn0 hn1)
     have p0 : (0 : Int) < n := by omega
     have p1 : (n : Int) ≤ 2100000000000000000 := by omega
     clear hbad hz hm0 hm1
     go_enter Tryz.func11, Tryz.ntmps11
     go_wp2_with fail
     have HU0 : Hid (((w.alloc (.cells zeb_ 2)).alloc (.cells zec_ 9)).heap[w.heap.size]? = some (.cells zeb_ 2 (0, 0))) := Lib.hid (x3_ (y8_ _ _) _)
     have HN0 : Hid (((w.alloc (.cells zeb_ 2)).alloc (.cells zec_ 9)).heap[w.heap.size + 1]? = some (.cells zec_ 9 (0, 0))) := Lib.hid (by have := y8_ (w.alloc (.cells zeb_ 2)) (.cells zec_ 9); rwa [World.size_alloc] at this)
     have HG0 : Hid (GL [] w ((w.alloc (.cells zeb_ 2)).alloc (.cells zec_ 9))) := Lib.hid (y2_ (y2_ (y1_ _ _) _) _)
     unfold zeb_ zec_ at HU0 HN0 HG0
     generalize (w.alloc (.cells #[.int .i64 100000000000, .int .i64 100000000, .int .i64 100000, .int .i64 100] 2)).alloc (.cells #[.string (bs []), .string (bs [109]), .string (bs [117]), .string (bs [110])] 9) = w0 at *
     go_loopw [6] (fun iv wr => ∃ i : Nat, i ≤ 4 ∧ iv = .int .i64 i ∧ Hid (k8_ n unitL = k8_ n (unitL.drop i)) ∧ Hid (wr = w0)) (fun iv _ => 4 - (intOf iv).toNat)
     case atStart => exact ⟨0, by omega, rfl, Lib.hid rfl, Lib.hid rfl⟩
     case round =>
      obtain ⟨i, hi, rfl, hgo, hw⟩ := hrel
      obtain rfl := hw.out
      clear hw
      have fu := z0_ HU0.out
      have fn := z0_ HN0.out
      rcases (by omega : i = 0 ∨ i = 1 ∨ i = 2 ∨ i = 3 ∨ i = 4) with rfl | rfl | rfl | rfl | rfl
      · by_cases hd : n % 100000000000 = 0
        · have HTX : Hid (k3_ (n : Int) = Lib.decDigits (n / 100000000000) ++ []) := Lib.hid (by rw [HT.out, hgo.out]; exact if_pos hd)
          have hdl : (Lib.decDigits (n / 100000000000)).length ≤ 20 := zba_ _ om_
          have hbt : (((n : Int) % 100000000000) == 0) = true := by simp; omega
          go_wp2_with fail
          go_region_with (go_at_call 28; refine (zeS_ (n / 100000000000) _ (by first | omega | (rw [IntKind.wrap_i64]; omega)) om_ _).mono ?_; rintro e w2 ⟨rfl, hb2⟩; have k0 := z0_ (x0_ (w1_ HN0.out) hb2 (z4_ (w1_ HN0.out))); have k1 := z0_ (x0_ (w1_ HU0.out) hb2 (z4_ (w1_ HU0.out))))
          all_goals go_wp2_with fail
          all_goals exact bodyPost_ret (v := .tuple #[.string (bs (Lib.decDigits (n / 100000000000) ++ [])), .int .i64 0]) (by simp [results, Tryz.results11, go_sem]) rfl ⟨by rw [HTX.out, HE.out], y0_ (y6_ hb2 (x9_ HG0.out))⟩
        · have hbt : (((n : Int) % 100000000000) == 0) = false := by simp; omega
          have HTX : Hid (k8_ n unitL = k8_ n (unitL.drop 1)) := Lib.hid (by rw [hgo.out]; exact if_neg hd)
          go_wp2_with fail
          exact ⟨⟨1, by omega, by first | rfl | (simp; done), HTX, by first | exact Lib.hid rfl | exact Lib.hid trivial⟩, by first | (simp [intOf]; done) | (simp [intOf]; omega)⟩
      · by_cases hd : n % 100000000 = 0
        · have HTX : Hid (k3_ (n : Int) = Lib.decDigits (n / 100000000) ++ [109]) := Lib.hid (by rw [HT.out, hgo.out]; exact if_pos hd)
          have hdl : (Lib.decDigits (n / 100000000)).length ≤ 20 := zba_ _ om_
          have hbt : (((n : Int) % 100000000) == 0) = true := by simp; omega
          go_wp2_with fail
          go_region_with (go_at_call 28; refine (zeS_ (n / 100000000) _ (by first | omega | (rw [IntKind.wrap_i64]; omega)) om_ _).mono ?_; rintro e w2 ⟨rfl, hb2⟩; have k0 := z0_ (x0_ (w1_ HN0.out) hb2 (z4_ (w1_ HN0.out))); have k1 := z0_ (x0_ (w1_ HU0.out) hb2 (z4_ (w1_ HU0.out))))
          all_goals go_wp2_with fail
          all_goals exact bodyPost_ret (v := .tuple #[.string (bs (Lib.decDigits (n / 100000000) ++ [109])), .int .i64 0]) (by simp [results, Tryz.results11, go_sem]) rfl ⟨by rw [HTX.out, HE.out], y0_ (y6_ hb2 (x9_ HG0.out))⟩
        · have hbt : (((n : Int) % 100000000) == 0) = false := by simp; omega
          have HTX : Hid (k8_ n unitL = k8_ n (unitL.drop 2)) := Lib.hid (by rw [hgo.out]; exact if_neg hd)
          go_wp2_with fail
          exact ⟨⟨2, by omega, by first | rfl | (simp; done), HTX, by first | exact Lib.hid rfl | exact Lib.hid trivial⟩, by first | (simp [intOf]; done) | (simp [intOf]; omega)⟩
      · by_cases hd : n % 100000 = 0
        · have HTX : Hid (k3_ (n : Int) = Lib.decDigits (n / 100000) ++ [117]) := Lib.hid (by rw [HT.out, hgo.out]; exact if_pos hd)
          have hdl : (Lib.decDigits (n / 100000)).length ≤ 20 := zba_ _ om_
          have hbt : (((n : Int) % 100000) == 0) = true := by simp; omega
          go_wp2_with fail
          go_region_with (go_at_call 28; refine (zeS_ (n / 100000) _ (by first | omega | (rw [IntKind.wrap_i64]; omega)) om_ _).mono ?_; rintro e w2 ⟨rfl, hb2⟩; have k0 := z0_ (x0_ (w1_ HN0.out) hb2 (z4_ (w1_ HN0.out))); have k1 := z0_ (x0_ (w1_ HU0.out) hb2 (z4_ (w1_ HU0.out))))
          all_goals go_wp2_with fail
          all_goals exact bodyPost_ret (v := .tuple #[.string (bs (Lib.decDigits (n / 100000) ++ [117])), .int .i64 0]) (by simp [results, Tryz.results11, go_sem]) rfl ⟨by rw [HTX.out, HE.out], y0_ (y6_ hb2 (x9_ HG0.out))⟩
        · have hbt : (((n : Int) % 100000) == 0) = false := by simp; omega
          have HTX : Hid (k8_ n unitL = k8_ n (unitL.drop 3)) := Lib.hid (by rw [hgo.out]; exact if_neg hd)
          go_wp2_with fail
          exact ⟨⟨3, by omega, by first | rfl | (simp; done), HTX, by first | exact Lib.hid rfl | exact Lib.hid trivial⟩, by first | (simp [intOf]; done) | (simp [intOf]; omega)⟩
      · by_cases hd : n % 100 = 0
        · have HTX : Hid (k3_ (n : Int) = Lib.decDigits (n / 100) ++ [110]) := Lib.hid (by rw [HT.out, hgo.out]; exact if_pos hd)
          have hdl : (Lib.decDigits (n / 100)).length ≤ 20 := zba_ _ om_
          have hbt : (((n : Int) % 100) == 0) = true := by simp; omega
          go_wp2_with fail
          go_region_with (go_at_call 28; refine (zeS_ (n / 100) _ (by first | omega | (rw [IntKind.wrap_i64]; omega)) om_ _).mono ?_; rintro e w2 ⟨rfl, hb2⟩; have k0 := z0_ (x0_ (w1_ HN0.out) hb2 (z4_ (w1_ HN0.out))); have k1 := z0_ (x0_ (w1_ HU0.out) hb2 (z4_ (w1_ HU0.out))))
          all_goals go_wp2_with fail
          all_goals exact bodyPost_ret (v := .tuple #[.string (bs (Lib.decDigits (n / 100) ++ [110])), .int .i64 0]) (by simp [results, Tryz.results11, go_sem]) rfl ⟨by rw [HTX.out, HE.out], y0_ (y6_ hb2 (x9_ HG0.out))⟩
        · have hbt : (((n : Int) % 100) == 0) = false := by simp; omega
          have HTX : Hid (k8_ n unitL = k8_ n (unitL.drop 4)) := Lib.hid (by rw [hgo.out]; exact if_neg hd)
          go_wp2_with fail
          exact ⟨⟨4, by omega, by first | rfl | (simp; done), HTX, by first | exact Lib.hid rfl | exact Lib.hid trivial⟩, by first | (simp [intOf]; done) | (simp [intOf]; omega)⟩
      · have HTX : Hid (k3_ (n : Int) = Lib.decDigits n ++ [48, 112]) := Lib.hid (by rw [HT.out, hgo.out]; rfl)
        have hdl : (Lib.decDigits n).length ≤ 20 := zba_ _ om_
        go_wp2_with fail
        refine (zeS_ n _ om_ om_ _).mono ?_
        rintro e w2 ⟨rfl, hb2⟩
        go_wp2_with fail
        exact bodyPost_ret (v := .tuple #[.string (bs (Lib.decDigits n ++ [48, 112])), .int .i64 0]) (by simp [results, Tryz.results11, go_sem]) rfl ⟨by rw [HTX.out, HE.out], y0_ (y6_ hb2 HG0.out)⟩
theorem zkO_ (n : Nat) (w : World) (hn : n ≤ 4611686018427387903) :
  Calls Tryz.prog 77 #[.int .i64 n] w fun e w' => ∃ ad c, e = .returned (.slice ad (w0_ n).length c) ∧ x1_ w.heap.size (.slice ad (w0_ n).length c) (w0_ n) w' ∧ Below w.heap.size w w' := by
 induction n using Nat.strongRecOn generalizing w with
 | ind n ih =>
   by_cases h0 : n = 0
   · subst h0
     have HE := Lib.hid zjE_
     go_enter Tryz.func77, Tryz.ntmps77
     go_wp2_with fail
     exact bodyPost_ret (v := .slice none 0 0) (by simp [results, Tryz.results77, go_sem]) rfl ⟨none, 0, by rw [HE.out]; rfl, by rw [HE.out]; exact zbN_ _ _, bl_⟩
   · have hpos : 0 < n := by omega
     have hz : ((n : Int) == 0) = false := by simp; omega
     have hp1 : (0 : Int) < n := by omega
     have HE := Lib.hid (zjF_ hpos)
     have HS := Lib.hid (zjG_ (n / 32) om_)
     have HI := Lib.hid (fun w => ih (n / 32) om_ w om_)
     have hn2 : (n : Int) ≤ 4611686018427387903 := by omega
     clear ih h0
     go_enter Tryz.func77, Tryz.ntmps77
     go_wp2_with fail
     refine (show Calls Tryz.prog 77 #[.int .i64 ((n / 32 : Nat) : Int)] w _ from HI.out w).mono ?_
     rintro e w1 ⟨ad, c, rfl, hown, hb1⟩
     have hx8 : ((n : Int) % 32) = ((UInt8.ofNat (n % 32)).toNat : Nat) := by rw [UInt8.toNat_ofNat']; omega
     obtain ⟨g, cap, w2, hrun, hown2, hgr, _, _⟩ := k7_ w.heap.size (.slice ad (w0_ (n / 32)).length c) _ (UInt8.ofNat (n % 32)) ((n : Int) % 32) hx8 w1 _ (.inr rfl) hown (by have := HS.out; omega) hb1.size
     have HL2 : Hid (GL [] w w2) := Lib.hid (y7_ hgr (y6_ hb1 (y1_ _ _)) (fun r hr => .inr (v4_ hown r (by simpa using hr)).1))
     have HRUN := Lib.hid hrun
     have HO2 := Lib.hid hown2
     have hlen : (w0_ n).length = (w0_ (n / 32)).length + 1 := by rw [HE.out]; simp
     have HLN := Lib.hid hlen
     clear hown hb1 hrun hown2 hgr hx8 hlen
     go_wp2_with (at_builtin; refine w8_ _ rfl (.tmp 9) (.tmp 13) 47 47 rfl _ _ (by simp [Act.eval, Act.put]) (by simp [Act.eval, Act.put]) HRUN.out ?_)
     exact bodyPost_ret (v := .slice (some ⟨g, 0, none⟩) ((w0_ (n / 32)).length + 1) cap) (by simp [results, Tryz.results77, go_sem]) rfl ⟨some ⟨g, 0, none⟩, cap, by rw [HLN.out], by rw [HLN.out, HE.out]; exact HO2.out, y0_ HL2.out⟩
theorem zhG_ (s : List UInt8) (hs : s.length ≤ 100000) (w : World) :
  Calls Tryz.prog 49 #[.string (bs s)] w fun e w' => ∃ ad c, e = .returned (.slice ad (x4_ s).length c) ∧ x1_ w.heap.size (.slice ad (x4_ s).length c) (x4_ s) w' ∧ Below w.heap.size w w' := by
 obtain ⟨c, w1, hcv, hin, hg⟩ := zfA_ 9 Tryz.underlying9 s w om_
 have HIN := Lib.hid (zjn_ hin)
 have HG := Lib.hid hg
 have HB := Lib.hid (zfc_ s)
 clear hin hg
 go_enter Tryz.func49, Tryz.ntmps49
 go_wp2_with fail
 refine (zrv_ s _ _ HIN.out om_).mono ?_
 rintro e w2 ⟨he, hb⟩
 rw [HB.out] at he
 obtain ⟨ad, c2, rfl, hown⟩ := he
 have HO := Lib.hid (zdv_ hown HG.out.size)
 have HL : Hid (GL [] w w2) := Lib.hid (y6_ hb HG.out)
 clear hown hb
 go_wp2_with fail
 exact bodyPost_ret (v := .slice ad (x4_ s).length c2) (by simp [results, Tryz.results49, go_sem]) rfl ⟨ad, c2, rfl, HO.out, y0_ HL.out⟩
theorem zrJ_ (lo : Nat) (w : World) (hlo : lo ≤ w.heap.size) (a b c : UInt8) (x y z : Int) (hx : x = a.toNat) (hy : y = b.toNat) (hz : z = c.toNat) :
  x1_ lo (.slice (some ⟨w.heap.size, 0, none⟩) 3 3) [a, b, c] (w.alloc (.cells #[.int .u8 x, .int .u8 y, .int .u8 z] 5)) := by
 subst hx hy hz
 exact ⟨rfl, .inr ⟨w.heap.size, 3, _, rfl, hlo, y8_ w _, by simp, by decide, rfl, rfl⟩⟩
theorem zeV_ (lo2 : Nat) (tag : UInt8) (T : Int) (hT : T = tag.toNat) (o : List UInt8) (bv : Value) (w : World) (hb : x1_ lo2 bv o w) (hol : o.length ≤ 1023) :
  Calls Tryz.prog 48 #[.int .u8 T, bv] w fun e w' => ∃ ad c, e = .returned (.slice ad (y5_ tag o).length c) ∧ x1_ w.heap.size (.slice ad (y5_ tag o).length c) (y5_ tag o) w' ∧ Below w.heap.size w w' := by
 subst hT
 obtain ⟨ad2, c2, rfl⟩ := zaO_ hb
 have e1 : ((o.length : Int) / 32) = ((UInt8.ofNat (o.length / 32)).toNat : Nat) := by rw [UInt8.toNat_ofNat']; omega
 have e2 : ((o.length : Int) % 32) = ((UInt8.ofNat (o.length % 32)).toNat : Nat) := by rw [UInt8.toNat_ofNat']; omega
 have ho1 := zrJ_ w.heap.size w (Nat.le_refl _) tag _ _ (tag.toNat : Nat) _ _ rfl e1 e2
 have hb2 := (zaT_ (zbT_ hb (.cells #[.int .u8 (tag.toNat : Nat), .int .u8 ((o.length : Int) / 32), .int .u8 ((o.length : Int) % 32)] 5))).1
 obtain ⟨ad3, cap3, w3, hr2, ho2, hg2⟩ := zcZ_ w.heap.size _ _ _ o _ ho1 hb2 so_ (by rw [World.size_alloc]; omega)
 have hw3 : GL [] w w3 := y7_ hg2 (y2_ (y1_ _ _) _) (fun r hr => .inr (by
  have : r = w.heap.size := by simpa [Value.ownBlock] using hr
  omega))
 have hfin : [tag, UInt8.ofNat (o.length / 32), UInt8.ofNat (o.length % 32)] ++ o = y5_ tag o := by unfold y5_; simp
 have hl3 : 3 + o.length = (y5_ tag o).length := by rw [← hfin]; simp; omega
 rw [hfin] at ho2
 rw [show ([tag, UInt8.ofNat (o.length / 32), UInt8.ofNat (o.length % 32)] : List UInt8).length = 3 from rfl, hl3] at hr2 ho2
 have HR2 := Lib.hid hr2
 have HO := Lib.hid ho2
 have HG := Lib.hid hw3
 have ho3 : (o.length : Int) ≤ 1023 := by omega
 clear hr2 ho2 hw3 hg2 hb2 ho1 hb hl3 hfin e1 e2
 go_enter Tryz.func48, Tryz.ntmps48
 go_wp2_with (((with_reducible (at_builtin; refine w8_ _ rfl (.tmp 16) (.tmp 17) 47 47 rfl _ _ ?ha ?hb HR2.out ?_)); (case ha => simp [Act.eval, Act.put]); (case hb => simp [Act.eval, Act.put])))
 exact bodyPost_ret (v := .slice ad3 (y5_ tag o).length cap3) (by simp [results, Tryz.results48, go_sem]) rfl ⟨ad3, cap3, rfl, HO.out, y0_ HG.out⟩
theorem zeW_ {w w2 w3 : World} {x : Inv} {l o : List UInt8} {v : Value} {ad3 : Option Addr} {c3 : Nat} (h : WdAt w x l v w2)
  (hg : GL v.ownBlock.toList w2 w3) (ho : x1_ w.heap.size (.slice ad3 (l ++ o).length c3) (l ++ o) w3) : WdAt w x (l ++ o) (.slice ad3 (l ++ o).length c3) w3 := by
 have hn : w.heap.size ∉ v.ownBlock.toList := by
  have := Ne.symm (v7_ h.own h.blk de_)
  simpa using this
 exact ⟨ho, x6_ h.blk hg hn, y7_ hg h.gl (fun r hr => .inr (v4_ h.own r (by simpa using hr)).1)⟩
theorem zrK_ (x : Inv) (hm : w3_ x = true) (w : World) :
  Calls Tryz.prog 40 #[invV x] w fun e w' => ∃ ad c, e = .returned (.slice ad (j1_ x).length c) ∧ x1_ w.heap.size (.slice ad (j1_ x).length c) (j1_ x) w' ∧ Below w.heap.size w w' := by
 obtain ⟨h1, h2, h3, h4, h5, h6, h7, h8, h9⟩ := zer_ hm
 have b1 : (x4_ x.hash).length ≤ 1023 := by rw [(zca_ x.hash).2.1]; omega
 have b2 : (x4_ x.payee).length ≤ 1023 := by rw [(zca_ x.payee).2.1]; omega
 have b3 : (x4_ x.memo).length ≤ 1023 := by rw [(zca_ x.memo).2.1]; omega
 have HW : Hid (j1_ x = z1_ 32 7 x.st.toNat ++ y5_ 1 (x4_ x.hash) ++ y5_ 19 (x4_ x.payee) ++ y5_ 13 (x4_ x.memo) ++ y5_ 6 (w0_ x.ex.toNat) ++ y5_ 24 (w0_ x.de.toNat)) := Lib.hid rfl
 obtain ⟨am, st, hash, payee, memo, ex, de, sig⟩ := x
 clear hm
 unfold invV
 simp only at HW h1 h2 h3 h4 h5 h6 h7 h8 h9 b1 b2 b3 ⊢
 obtain ⟨S, rfl⟩ : ∃ n : Nat, st = n := ⟨st.toNat, by omega⟩
 obtain ⟨E, rfl⟩ : ∃ n : Nat, ex = n := ⟨ex.toNat, by omega⟩
 obtain ⟨D, rfl⟩ : ∃ n : Nat, de = n := ⟨de.toNat, by omega⟩
 simp only [Int.toNat_natCast] at HW
 have hS : S < 34359738368 := by omega
 have hE : E < 34359738368 := by omega
 have hD : D < 2147483648 := by omega
 have n1 := zde_ 7 E om_
 have n2 := zde_ 7 D om_
 clear h4 h5 h6 h7 h8 h9
 go_enter Tryz.func40, Tryz.ntmps40
 go_wp2_with fail
 have HB0 : Hid (WdAt w ⟨am, S, hash, payee, memo, E, D, sig⟩ (z1_ 32 0 (S / 2 ^ (35 - 5 * 0))) (.slice none 0 0) (w.alloc (.cells #[.int .i64 am, .int .i64 S, .string (bs hash), .string (bs payee), .string (bs memo), .int .i64 E, .int .i64 D, .string (bs sig)] 31))) := Lib.hid ⟨zbN_ _ _, y8_ _ _, y2_ (y1_ _ _) _⟩
 go_loopw [3, 4] (fun wv iv wr => ∃ k : Nat, k ≤ 7 ∧ iv = .int .i64 (30 - 5 * (k : Int)) ∧ Hid (WdAt w ⟨am, S, hash, payee, memo, E, D, sig⟩ (z1_ 32 k (S / 2 ^ (35 - 5 * k))) wv wr)) (fun _ iv _ => (intOf iv + 10).toNat)
 case atStart => exact ⟨0, by omega, rfl, HB0⟩
 case round =>
  obtain ⟨k, hk, rfl, hwd⟩ := hrel
  obtain ⟨oa, oc, rfl⟩ := zaO_ hwd.out.own
  have hlk : (z1_ 32 k (S / 2 ^ (35 - 5 * k))).length = k := y9_ _ _ _
  have hfc := zch_ hwd.out
  rcases (by omega : k = 0 ∨ k = 1 ∨ k = 2 ∨ k = 3 ∨ k = 4 ∨ k = 5 ∨ k = 6 ∨ k = 7) with rfl | rfl | rfl | rfl | rfl | rfl | rfl | rfl
  · have hst := zbR_ S 0 om_
    have hx8 : ((S : Int) / 1073741824 % 32) = ((UInt8.ofNat (S / 2 ^ (35 - 5 * (0 + 1)) % 32)).toNat : Nat) := by rw [UInt8.toNat_ofNat', show 2 ^ (35 - 5 * (0 + 1)) = 1073741824 from rfl]; omega
    obtain ⟨g, cap, w2, hrun, hown2, hgr, _, _⟩ := k7_ w.heap.size _ _ (UInt8.ofNat (S / 2 ^ (35 - 5 * (0 + 1)) % 32)) ((S : Int) / 1073741824 % 32) hx8 wr _ (.inr rfl) hwd.out.own om_ hwd.out.gl.size
    rw [← hst] at hown2
    have HWD : Hid (WdAt w ⟨am, S, hash, payee, memo, E, D, sig⟩ (z1_ 32 (0 + 1) (S / 2 ^ (35 - 5 * (0 + 1)))) (.slice (some ⟨g, 0, none⟩) ((z1_ 32 0 (S / 2 ^ (35 - 5 * 0))).length + 1) cap) w2) := Lib.hid ⟨hown2, x6_ hwd.out.blk hgr (by have := Ne.symm (v7_ hwd.out.own hwd.out.blk de_); simpa using this), y7_ hgr hwd.out.gl (fun r hr => .inr (v4_ hwd.out.own r (by simpa using hr)).1)⟩
    have hand := zcg_ S 1073741824 1073741824 rfl om_
    have HRUN := Lib.hid hrun
    have f1 : wr.cell? ⟨w.heap.size, 1, none⟩ = some (.int .i64 S) := hfc 1
    have hi : (30 - 5 * ((0 : Nat) : Int)) = 30 := by omega
    rw [hi]
    simp only [hlk] at HRUN HWD ⊢
    clear hi hst hx8 hrun hown2 hgr hfc hlk HB0 hwd
    go_wp2_with (at_builtin; refine w8_ _ rfl (.tmp 9) (.tmp 16) 47 47 rfl _ _ (by simp [Act.eval, Act.put]) (by simp [Act.eval, Act.put]) HRUN.out ?_)
    exact ⟨⟨1, by omega, by first | rfl | go_num, HWD⟩, by first | (simp [intOf]; done) | (simp [intOf]; omega)⟩
  · have hst := zbR_ S 1 om_
    have hx8 : ((S : Int) / 33554432 % 32) = ((UInt8.ofNat (S / 2 ^ (35 - 5 * (1 + 1)) % 32)).toNat : Nat) := by rw [UInt8.toNat_ofNat', show 2 ^ (35 - 5 * (1 + 1)) = 33554432 from rfl]; omega
    obtain ⟨g, cap, w2, hrun, hown2, hgr, _, _⟩ := k7_ w.heap.size _ _ (UInt8.ofNat (S / 2 ^ (35 - 5 * (1 + 1)) % 32)) ((S : Int) / 33554432 % 32) hx8 wr _ (.inr rfl) hwd.out.own om_ hwd.out.gl.size
    rw [← hst] at hown2
    have HWD : Hid (WdAt w ⟨am, S, hash, payee, memo, E, D, sig⟩ (z1_ 32 (1 + 1) (S / 2 ^ (35 - 5 * (1 + 1)))) (.slice (some ⟨g, 0, none⟩) ((z1_ 32 1 (S / 2 ^ (35 - 5 * 1))).length + 1) cap) w2) := Lib.hid ⟨hown2, x6_ hwd.out.blk hgr (by have := Ne.symm (v7_ hwd.out.own hwd.out.blk de_); simpa using this), y7_ hgr hwd.out.gl (fun r hr => .inr (v4_ hwd.out.own r (by simpa using hr)).1)⟩
    have hand := zcg_ S 33554432 33554432 rfl om_
    have HRUN := Lib.hid hrun
    have f1 : wr.cell? ⟨w.heap.size, 1, none⟩ = some (.int .i64 S) := hfc 1
    have hi : (30 - 5 * ((1 : Nat) : Int)) = 25 := by omega
    rw [hi]
    simp only [hlk] at HRUN HWD ⊢
    clear hi hst hx8 hrun hown2 hgr hfc hlk HB0 hwd
    go_wp2_with (at_builtin; refine w8_ _ rfl (.tmp 9) (.tmp 16) 47 47 rfl _ _ (by simp [Act.eval, Act.put]) (by simp [Act.eval, Act.put]) HRUN.out ?_)
    exact ⟨⟨2, by omega, by first | rfl | go_num, HWD⟩, by first | (simp [intOf]; done) | (simp [intOf]; omega)⟩
  · have hst := zbR_ S 2 om_
    have hx8 : ((S : Int) / 1048576 % 32) = ((UInt8.ofNat (S / 2 ^ (35 - 5 * (2 + 1)) % 32)).toNat : Nat) := by rw [UInt8.toNat_ofNat', show 2 ^ (35 - 5 * (2 + 1)) = 1048576 from rfl]; omega
    obtain ⟨g, cap, w2, hrun, hown2, hgr, _, _⟩ := k7_ w.heap.size _ _ (UInt8.ofNat (S / 2 ^ (35 - 5 * (2 + 1)) % 32)) ((S : Int) / 1048576 % 32) hx8 wr _ (.inr rfl) hwd.out.own om_ hwd.out.gl.size
    rw [← hst] at hown2
    have HWD : Hid (WdAt w ⟨am, S, hash, payee, memo, E, D, sig⟩ (z1_ 32 (2 + 1) (S / 2 ^ (35 - 5 * (2 + 1)))) (.slice (some ⟨g, 0, none⟩) ((z1_ 32 2 (S / 2 ^ (35 - 5 * 2))).length + 1) cap) w2) := Lib.hid ⟨hown2, x6_ hwd.out.blk hgr (by have := Ne.symm (v7_ hwd.out.own hwd.out.blk de_); simpa using this), y7_ hgr hwd.out.gl (fun r hr => .inr (v4_ hwd.out.own r (by simpa using hr)).1)⟩
    have hand := zcg_ S 1048576 1048576 rfl om_
    have HRUN := Lib.hid hrun
    have f1 : wr.cell? ⟨w.heap.size, 1, none⟩ = some (.int .i64 S) := hfc 1
    have hi : (30 - 5 * ((2 : Nat) : Int)) = 20 := by omega
    rw [hi]
    simp only [hlk] at HRUN HWD ⊢
    clear hi hst hx8 hrun hown2 hgr hfc hlk HB0 hwd
    go_wp2_with (at_builtin; refine w8_ _ rfl (.tmp 9) (.tmp 16) 47 47 rfl _ _ (by simp [Act.eval, Act.put]) (by simp [Act.eval, Act.put]) HRUN.out ?_)
    exact ⟨⟨3, by omega, by first | rfl | go_num, HWD⟩, by first | (simp [intOf]; done) | (simp [intOf]; omega)⟩
  · have hst := zbR_ S 3 om_
    have hx8 : ((S : Int) / 32768 % 32) = ((UInt8.ofNat (S / 2 ^ (35 - 5 * (3 + 1)) % 32)).toNat : Nat) := by rw [UInt8.toNat_ofNat', show 2 ^ (35 - 5 * (3 + 1)) = 32768 from rfl]; omega
    obtain ⟨g, cap, w2, hrun, hown2, hgr, _, _⟩ := k7_ w.heap.size _ _ (UInt8.ofNat (S / 2 ^ (35 - 5 * (3 + 1)) % 32)) ((S : Int) / 32768 % 32) hx8 wr _ (.inr rfl) hwd.out.own om_ hwd.out.gl.size
    rw [← hst] at hown2
    have HWD : Hid (WdAt w ⟨am, S, hash, payee, memo, E, D, sig⟩ (z1_ 32 (3 + 1) (S / 2 ^ (35 - 5 * (3 + 1)))) (.slice (some ⟨g, 0, none⟩) ((z1_ 32 3 (S / 2 ^ (35 - 5 * 3))).length + 1) cap) w2) := Lib.hid ⟨hown2, x6_ hwd.out.blk hgr (by have := Ne.symm (v7_ hwd.out.own hwd.out.blk de_); simpa using this), y7_ hgr hwd.out.gl (fun r hr => .inr (v4_ hwd.out.own r (by simpa using hr)).1)⟩
    have hand := zcg_ S 32768 32768 rfl om_
    have HRUN := Lib.hid hrun
    have f1 : wr.cell? ⟨w.heap.size, 1, none⟩ = some (.int .i64 S) := hfc 1
    have hi : (30 - 5 * ((3 : Nat) : Int)) = 15 := by omega
    rw [hi]
    simp only [hlk] at HRUN HWD ⊢
    clear hi hst hx8 hrun hown2 hgr hfc hlk HB0 hwd
    go_wp2_with (at_builtin; refine w8_ _ rfl (.tmp 9) (.tmp 16) 47 47 rfl _ _ (by simp [Act.eval, Act.put]) (by simp [Act.eval, Act.put]) HRUN.out ?_)
    exact ⟨⟨4, by omega, by first | rfl | go_num, HWD⟩, by first | (simp [intOf]; done) | (simp [intOf]; omega)⟩
  · have hst := zbR_ S 4 om_
    have hx8 : ((S : Int) / 1024 % 32) = ((UInt8.ofNat (S / 2 ^ (35 - 5 * (4 + 1)) % 32)).toNat : Nat) := by rw [UInt8.toNat_ofNat', show 2 ^ (35 - 5 * (4 + 1)) = 1024 from rfl]; omega
    obtain ⟨g, cap, w2, hrun, hown2, hgr, _, _⟩ := k7_ w.heap.size _ _ (UInt8.ofNat (S / 2 ^ (35 - 5 * (4 + 1)) % 32)) ((S : Int) / 1024 % 32) hx8 wr _ (.inr rfl) hwd.out.own om_ hwd.out.gl.size
    rw [← hst] at hown2
    have HWD : Hid (WdAt w ⟨am, S, hash, payee, memo, E, D, sig⟩ (z1_ 32 (4 + 1) (S / 2 ^ (35 - 5 * (4 + 1)))) (.slice (some ⟨g, 0, none⟩) ((z1_ 32 4 (S / 2 ^ (35 - 5 * 4))).length + 1) cap) w2) := Lib.hid ⟨hown2, x6_ hwd.out.blk hgr (by have := Ne.symm (v7_ hwd.out.own hwd.out.blk de_); simpa using this), y7_ hgr hwd.out.gl (fun r hr => .inr (v4_ hwd.out.own r (by simpa using hr)).1)⟩
    have hand := zcg_ S 1024 1024 rfl om_
    have HRUN := Lib.hid hrun
    have f1 : wr.cell? ⟨w.heap.size, 1, none⟩ = some (.int .i64 S) := hfc 1
    have hi : (30 - 5 * ((4 : Nat) : Int)) = 10 := by omega
    rw [hi]
    simp only [hlk] at HRUN HWD ⊢
    clear hi hst hx8 hrun hown2 hgr hfc hlk HB0 hwd
    go_wp2_with (at_builtin; refine w8_ _ rfl (.tmp 9) (.tmp 16) 47 47 rfl _ _ (by simp [Act.eval, Act.put]) (by simp [Act.eval, Act.put]) HRUN.out ?_)
    exact ⟨⟨5, by omega, by first | rfl | go_num, HWD⟩, by first | (simp [intOf]; done) | (simp [intOf]; omega)⟩
  · have hst := zbR_ S 5 om_
    have hx8 : ((S : Int) / 32 % 32) = ((UInt8.ofNat (S / 2 ^ (35 - 5 * (5 + 1)) % 32)).toNat : Nat) := by rw [UInt8.toNat_ofNat', show 2 ^ (35 - 5 * (5 + 1)) = 32 from rfl]; omega
    obtain ⟨g, cap, w2, hrun, hown2, hgr, _, _⟩ := k7_ w.heap.size _ _ (UInt8.ofNat (S / 2 ^ (35 - 5 * (5 + 1)) % 32)) ((S : Int) / 32 % 32) hx8 wr _ (.inr rfl) hwd.out.own om_ hwd.out.gl.size
    rw [← hst] at hown2
    have HWD : Hid (WdAt w ⟨am, S, hash, payee, memo, E, D, sig⟩ (z1_ 32 (5 + 1) (S / 2 ^ (35 - 5 * (5 + 1)))) (.slice (some ⟨g, 0, none⟩) ((z1_ 32 5 (S / 2 ^ (35 - 5 * 5))).length + 1) cap) w2) := Lib.hid ⟨hown2, x6_ hwd.out.blk hgr (by have := Ne.symm (v7_ hwd.out.own hwd.out.blk de_); simpa using this), y7_ hgr hwd.out.gl (fun r hr => .inr (v4_ hwd.out.own r (by simpa using hr)).1)⟩
    have hand := zcg_ S 32 32 rfl om_
    have HRUN := Lib.hid hrun
    have f1 : wr.cell? ⟨w.heap.size, 1, none⟩ = some (.int .i64 S) := hfc 1
    have hi : (30 - 5 * ((5 : Nat) : Int)) = 5 := by omega
    rw [hi]
    simp only [hlk] at HRUN HWD ⊢
    clear hi hst hx8 hrun hown2 hgr hfc hlk HB0 hwd
    go_wp2_with (at_builtin; refine w8_ _ rfl (.tmp 9) (.tmp 16) 47 47 rfl _ _ (by simp [Act.eval, Act.put]) (by simp [Act.eval, Act.put]) HRUN.out ?_)
    exact ⟨⟨6, by omega, by first | rfl | go_num, HWD⟩, by first | (simp [intOf]; done) | (simp [intOf]; omega)⟩
  · have hst := zbR_ S 6 om_
    have hx8 : ((S : Int) % 32) = ((UInt8.ofNat (S / 2 ^ (35 - 5 * (6 + 1)) % 32)).toNat : Nat) := by rw [UInt8.toNat_ofNat', show 2 ^ (35 - 5 * (6 + 1)) = 1 from rfl]; omega
    obtain ⟨g, cap, w2, hrun, hown2, hgr, _, _⟩ := k7_ w.heap.size _ _ (UInt8.ofNat (S / 2 ^ (35 - 5 * (6 + 1)) % 32)) ((S : Int) % 32) hx8 wr _ (.inr rfl) hwd.out.own om_ hwd.out.gl.size
    rw [← hst] at hown2
    have HWD : Hid (WdAt w ⟨am, S, hash, payee, memo, E, D, sig⟩ (z1_ 32 (6 + 1) (S / 2 ^ (35 - 5 * (6 + 1)))) (.slice (some ⟨g, 0, none⟩) ((z1_ 32 6 (S / 2 ^ (35 - 5 * 6))).length + 1) cap) w2) := Lib.hid ⟨hown2, x6_ hwd.out.blk hgr (by have := Ne.symm (v7_ hwd.out.own hwd.out.blk de_); simpa using this), y7_ hgr hwd.out.gl (fun r hr => .inr (v4_ hwd.out.own r (by simpa using hr)).1)⟩
    have hand : bits .and .i64 (S : Int) 31 = (S : Int) % 32 := by rw [zeI_ S om_]; simp
    have HRUN := Lib.hid hrun
    have f1 : wr.cell? ⟨w.heap.size, 1, none⟩ = some (.int .i64 S) := hfc 1
    have hi : (30 - 5 * ((6 : Nat) : Int)) = 0 := by omega
    rw [hi]
    simp only [hlk] at HRUN HWD ⊢
    clear hi hst hx8 hrun hown2 hgr hfc hlk HB0 hwd
    go_wp2_with (at_builtin; refine w8_ _ rfl (.tmp 9) (.tmp 16) 47 47 rfl _ _ (by simp [Act.eval, Act.put]) (by simp [Act.eval, Act.put]) HRUN.out ?_)
    exact ⟨⟨7, by omega, by first | rfl | go_num, HWD⟩, by first | (simp [intOf]; done) | (simp [intOf]; omega)⟩
  · have hi : (30 - 5 * ((7 : Nat) : Int)) = -5 := by omega
    rw [hi]
    have hs0 : S / 2 ^ (35 - 5 * 7) = S := by simp
    rw [hs0] at hwd hlk
    have HA0 := hwd
    simp only [hlk] at HA0
    have L0 : (z1_ 32 7 S).length ≤ 7 := by omega
    generalize hl0 : z1_ 32 7 S = l0 at *
    clear hi hs0 hwd HB0 hfc
    have g0 : wr.cell? ⟨w.heap.size, 2, none⟩ = some (.string (bs hash)) := zch_ HA0.out 2
    go_wp2_with fail
    refine (zhG_ hash om_ _).mono ?_
    rintro e x0 ⟨ta0, tc0, rfl, ht0, hb0⟩
    have HT0 := Lib.hid ht0
    have HBL0 := Lib.hid hb0
    clear ht0 hb0
    go_wp2_with fail
    refine (zeV_ wr.heap.size 1 1 rfl (x4_ hash) _ x0 HT0.out om_).mono ?_
    rintro e z0 ⟨fa0, fc0, rfl, hf0, hg0⟩
    have HZ0 := zaX_ (zaX_ HA0.out HBL0.out) hg0
    obtain ⟨ga0, gc0, y0, hrun0, hown0, hgr0⟩ := zcZ_ w.heap.size _ _ _ _ z0 HZ0.own (zaT_ hf0).1 (by simp only [y5_, List.length_cons]; omega) HZ0.gl.size
    have hlap0 : (l0 ++ y5_ 1 (x4_ hash)).length = l0.length + (y5_ 1 (x4_ hash)).length := List.length_append
    rw [← hlap0] at hrun0 hown0
    have HA1 := Lib.hid (zeW_ HZ0 hgr0 hown0)
    have HRUN0 := Lib.hid hrun0
    have L1 : (l0 ++ y5_ 1 (x4_ hash)).length ≤ 1033 := by rw [List.length_append]; unfold y5_; simp only [List.length_cons]; omega
    clear hf0 hg0 g0 HT0 HBL0 HZ0 hrun0 hown0 hgr0 hlap0
    generalize hl1 : l0 ++ y5_ 1 (x4_ hash) = l1 at *
    have g1 : y0.cell? ⟨w.heap.size, 3, none⟩ = some (.string (bs payee)) := zch_ HA1.out 3
    go_wp2_with (((with_reducible (at_builtin; refine w8_ _ rfl (.tmp 18) (.tmp 22) 47 47 rfl _ _ ?ha ?hb HRUN0.out ?_)); (case ha => simp [Act.eval, Act.put]); (case hb => simp [Act.eval, Act.put])))
    refine (zhG_ payee om_ _).mono ?_
    rintro e x1 ⟨ta1, tc1, rfl, ht1, hb1⟩
    have HT1 := Lib.hid ht1
    have HBL1 := Lib.hid hb1
    clear ht1 hb1
    go_wp2_with fail
    refine (zeV_ y0.heap.size 19 19 rfl (x4_ payee) _ x1 HT1.out om_).mono ?_
    rintro e z1 ⟨fa1, fc1, rfl, hf1, hg1⟩
    have HZ1 := zaX_ (zaX_ HA1.out HBL1.out) hg1
    obtain ⟨ga1, gc1, y1, hrun1, hown1, hgr1⟩ := zcZ_ w.heap.size _ _ _ _ z1 HZ1.own (zaT_ hf1).1 (by simp only [y5_, List.length_cons]; omega) HZ1.gl.size
    have hlap1 : (l1 ++ y5_ 19 (x4_ payee)).length = l1.length + (y5_ 19 (x4_ payee)).length := List.length_append
    rw [← hlap1] at hrun1 hown1
    have HA2 := Lib.hid (zeW_ HZ1 hgr1 hown1)
    have HRUN1 := Lib.hid hrun1
    have L2 : (l1 ++ y5_ 19 (x4_ payee)).length ≤ 2059 := by rw [List.length_append]; unfold y5_; simp only [List.length_cons]; omega
    clear hf1 hg1 g1 HT1 HBL1 HZ1 hrun1 hown1 hgr1 hlap1
    generalize hl2 : l1 ++ y5_ 19 (x4_ payee) = l2 at *
    have g2 : y1.cell? ⟨w.heap.size, 4, none⟩ = some (.string (bs memo)) := zch_ HA2.out 4
    go_wp2_with (((with_reducible (at_builtin; refine w8_ _ rfl (.tmp 24) (.tmp 28) 47 47 rfl _ _ ?ha ?hb HRUN1.out ?_)); (case ha => simp [Act.eval, Act.put]); (case hb => simp [Act.eval, Act.put])))
    refine (zhG_ memo om_ _).mono ?_
    rintro e x2 ⟨ta2, tc2, rfl, ht2, hb2⟩
    have HT2 := Lib.hid ht2
    have HBL2 := Lib.hid hb2
    clear ht2 hb2
    go_wp2_with fail
    refine (zeV_ y1.heap.size 13 13 rfl (x4_ memo) _ x2 HT2.out om_).mono ?_
    rintro e z2 ⟨fa2, fc2, rfl, hf2, hg2⟩
    have HZ2 := zaX_ (zaX_ HA2.out HBL2.out) hg2
    obtain ⟨ga2, gc2, y2, hrun2, hown2, hgr2⟩ := zcZ_ w.heap.size _ _ _ _ z2 HZ2.own (zaT_ hf2).1 (by simp only [y5_, List.length_cons]; omega) HZ2.gl.size
    have hlap2 : (l2 ++ y5_ 13 (x4_ memo)).length = l2.length + (y5_ 13 (x4_ memo)).length := List.length_append
    rw [← hlap2] at hrun2 hown2
    have HA3 := Lib.hid (zeW_ HZ2 hgr2 hown2)
    have HRUN2 := Lib.hid hrun2
    have L3 : (l2 ++ y5_ 13 (x4_ memo)).length ≤ 3085 := by rw [List.length_append]; unfold y5_; simp only [List.length_cons]; omega
    clear hf2 hg2 g2 HT2 HBL2 HZ2 hrun2 hown2 hgr2 hlap2
    generalize hl3 : l2 ++ y5_ 13 (x4_ memo) = l3 at *
    have g3 : y2.cell? ⟨w.heap.size, 5, none⟩ = some (.int .i64 E) := zch_ HA3.out 5
    go_wp2_with (((with_reducible (at_builtin; refine w8_ _ rfl (.tmp 30) (.tmp 34) 47 47 rfl _ _ ?ha ?hb HRUN2.out ?_)); (case ha => simp [Act.eval, Act.put]); (case hb => simp [Act.eval, Act.put])))
    refine (zkO_ E _ om_).mono ?_
    rintro e x3 ⟨ta3, tc3, rfl, ht3, hb3⟩
    have HT3 := Lib.hid ht3
    have HBL3 := Lib.hid hb3
    clear ht3 hb3
    go_wp2_with fail
    refine (zeV_ y2.heap.size 6 6 rfl (w0_ E) _ x3 HT3.out om_).mono ?_
    rintro e z3 ⟨fa3, fc3, rfl, hf3, hg3⟩
    have HZ3 := zaX_ (zaX_ HA3.out HBL3.out) hg3
    obtain ⟨ga3, gc3, y3, hrun3, hown3, hgr3⟩ := zcZ_ w.heap.size _ _ _ _ z3 HZ3.own (zaT_ hf3).1 (by simp only [y5_, List.length_cons]; omega) HZ3.gl.size
    have hlap3 : (l3 ++ y5_ 6 (w0_ E)).length = l3.length + (y5_ 6 (w0_ E)).length := List.length_append
    rw [← hlap3] at hrun3 hown3
    have HA4 := Lib.hid (zeW_ HZ3 hgr3 hown3)
    have HRUN3 := Lib.hid hrun3
    have L4 : (l3 ++ y5_ 6 (w0_ E)).length ≤ 3095 := by rw [List.length_append]; unfold y5_; simp only [List.length_cons]; omega
    clear hf3 hg3 g3 HT3 HBL3 HZ3 hrun3 hown3 hgr3 hlap3
    generalize hl4 : l3 ++ y5_ 6 (w0_ E) = l4 at *
    have g4 : y3.cell? ⟨w.heap.size, 6, none⟩ = some (.int .i64 D) := zch_ HA4.out 6
    go_wp2_with (((with_reducible (at_builtin; refine w8_ _ rfl (.tmp 36) (.tmp 40) 47 47 rfl _ _ ?ha ?hb HRUN3.out ?_)); (case ha => simp [Act.eval, Act.put]); (case hb => simp [Act.eval, Act.put])))
    refine (zkO_ D _ om_).mono ?_
    rintro e x4 ⟨ta4, tc4, rfl, ht4, hb4⟩
    have HT4 := Lib.hid ht4
    have HBL4 := Lib.hid hb4
    clear ht4 hb4
    go_wp2_with fail
    refine (zeV_ y3.heap.size 24 24 rfl (w0_ D) _ x4 HT4.out om_).mono ?_
    rintro e z4 ⟨fa4, fc4, rfl, hf4, hg4⟩
    have HZ4 := zaX_ (zaX_ HA4.out HBL4.out) hg4
    obtain ⟨ga4, gc4, y4, hrun4, hown4, hgr4⟩ := zcZ_ w.heap.size _ _ _ _ z4 HZ4.own (zaT_ hf4).1 (by simp only [y5_, List.length_cons]; omega) HZ4.gl.size
    have hlap4 : (l4 ++ y5_ 24 (w0_ D)).length = l4.length + (y5_ 24 (w0_ D)).length := List.length_append
    rw [← hlap4] at hrun4 hown4
    have HA5 := Lib.hid (zeW_ HZ4 hgr4 hown4)
    have HRUN4 := Lib.hid hrun4
    have L5 : (l4 ++ y5_ 24 (w0_ D)).length ≤ 3105 := by rw [List.length_append]; unfold y5_; simp only [List.length_cons]; omega
    clear hf4 hg4 g4 HT4 HBL4 HZ4 hrun4 hown4 hgr4 hlap4
    generalize hl5 : l4 ++ y5_ 24 (w0_ D) = l5 at *
    go_wp2_with (((with_reducible (at_builtin; refine w8_ _ rfl (.tmp 42) (.tmp 46) 47 47 rfl _ _ ?ha ?hb HRUN4.out ?_)); (case ha => simp [Act.eval, Act.put]); (case hb => simp [Act.eval, Act.put])))
    have HE : Hid (j1_ ⟨am, S, hash, payee, memo, E, D, sig⟩ = l5) := HW
    have hf : x1_ w.heap.size (.slice ga4 l5.length gc4) l5 y4 := HA5.out.own
    have HF := Lib.hid hf
    clear hf hl0 hl1 hl2 hl3 hl4 hl5
    exact bodyPost_ret (v := .slice ga4 l5.length gc4) (by simp [results, Tryz.results40, go_sem]) rfl ⟨ga4, gc4, by rw [HE.out], by rw [HE.out]; exact HF.out, y0_ HA5.out.gl⟩
end Go.Proofs.YtembdkodajichaaGreatDoor
