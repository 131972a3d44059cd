/- The program: what can be made of what is held; what was asked is remembered. -/
import Derived.Test.YtaaiaahkakkleaaGreatDoorDedA
import Derived.Test.YtaaiaahkakkleaaGreatDoorDedK
set_option maxRecDepth 100000
set_option maxHeartbeats 2000000
set_option linter.unusedSimpArgs false
set_option linter.unusedVariables false
namespace Go.Proofs.YtaaiaahkakkleaaGreatDoor
open Go.RowKit
structure AskAt (w : World) (A bh bt : Nat) (S : List UInt8 → Bool) (f : List UInt8 → Option Bool) : Prop where
 blk : w.heap[A]? = some (.cells #[.map (some bh), .map (some bt)] 122 (0, 0))
 held : ∃ ne, MapT w bh ne (setF S)
 told : ∃ k, MapT w bt k f
 ne : A ≠ bt ∧ bh ≠ bt
 low : gN ≤ bt
theorem ask_gl {w w' : World} {A bh bt : Nat} {S : List UInt8 → Bool} {f : List UInt8 → Option Bool} {rs : List Nat} (h : AskAt w A bh bt S f) (hg : GL rs w w') (h1 : A ∉ rs) (h2 : bh ∉ rs) (h3 : bt ∉ rs) : AskAt w' A bh bt S f := by
 obtain ⟨ne, hh⟩ := h.held
 obtain ⟨k, hk⟩ := h.told
 exact ⟨blk_gl h.blk hg h1, ⟨ne, mapB_gl hh hg h2⟩, ⟨k, mapB_gl hk hg h3⟩, h.ne, h.low⟩
theorem ask_below {w w' : World} {A bh bt : Nat} {S : List UInt8 → Bool} {f : List UInt8 → Option Bool} (h : AskAt w A bh bt S f) (hb : Below w.heap.size w w') : AskAt w' A bh bt S f :=
 ask_gl h (gl_below hb (gl_refl [] _)) si_ si_ si_
theorem ask_set {w w' : World} {A bh bt k : Nat} {S : List UInt8 → Bool} {f f' : List UInt8 → Option Bool} (h : AskAt w A bh bt S f) (hg : GL [bt] w w') (hm : MapT w' bt k f') : AskAt w' A bh bt S f' := by
 obtain ⟨ne, hh⟩ := h.held
 exact ⟨blk_gl h.blk hg (by simpa using h.ne.1), ⟨ne, mapB_gl hh hg (by simpa using h.ne.2)⟩, ⟨k, hm⟩, h.ne, h.low⟩
theorem ask_told {w : World} {A bh bt m : Nat} {S : List UInt8 → Bool} {f : List UInt8 → Option Bool} {U : List (List UInt8)} (h : AskAt w A bh bt S f) (hT : Tld U S m f) : ∃ k, MapT w bt k f ∧ k ≤ U.length := by
 obtain ⟨k, hk⟩ := h.told
 refine ⟨k, hk, mapB_le Tryz.underlying22 hk U (fun t ht => ?_)⟩
 obtain ⟨x, hx⟩ := Option.isSome_iff_exists.1 ht
 exact (hT t x hx).1
theorem ask_lt {w : World} {A bh bt : Nat} {S : List UInt8 → Bool} {f : List UInt8 → Option Bool} (h : AskAt w A bh bt S f) : A < w.heap.size ∧ bh < w.heap.size ∧ bt < w.heap.size := by
 obtain ⟨ne, hh⟩ := h.held
 obtain ⟨k, hk⟩ := h.told
 exact ⟨blk_lt h.blk, mapB_lt hh, mapB_lt hk⟩
def AskPost (w : World) (A bh bt : Nat) (S : List UInt8 → Bool) (U : List (List UInt8)) (m : Nat) (f : List UInt8 → Option Bool) (b : Bool) (e : Ending) (w' : World) : Prop :=
 e = .returned (.bool b) ∧ ∃ f', AskAt w' A bh bt S f' ∧ Ext U S m f f' ∧ GL [bt] w w'
def KnN (U : List (List UInt8)) (n : Nat) : Prop := ∀ (t : List UInt8), t.length < n → right t = true → t ∈ U → ∀ (A bh bt : Nat) (S : List UInt8 → Bool) (f : List UInt8 → Option Bool) (w : World), GOk w → AskAt w A bh bt S f → Tld U S t.length f →
 Calls Tryz.prog 41 #[.pointer (some ⟨A, 0, none⟩), .string (bs t)] w (AskPost w A bh bt S U t.length f (kn S t))
theorem kn_le {U : List (List UInt8)} {n : Nat} (ih : KnN U n) {t : List UInt8} (hn : t.length < n) (hr : right t = true) (hu : t ∈ U) {A bh bt m : Nat} {S : List UInt8 → Bool} {f : List UInt8 → Option Bool} {w : World} (hG : GOk w) (hA : AskAt w A bh bt S f) (hT : Tld U S m f) (hm : t.length ≤ m) :
  Calls Tryz.prog 41 #[.pointer (some ⟨A, 0, none⟩), .string (bs t)] w (AskPost w A bh bt S U m f (kn S t)) :=
 (ih t hn hr hu A bh bt S f w hG hA (tld_le hT hm)).mono fun _ _ ⟨h1, f', h2, h3, h4⟩ => ⟨h1, f', h2, ext_le h3 hm, h4⟩
theorem gok_bt {w w' : World} {bt : Nat} (h : GOk w) (hg : GL [bt] w w') (hl : gN ≤ bt) : GOk w' := gok_gl h hg (by simpa using hl)
theorem dAgrees {U : List (List UInt8)} {n : Nat} (ih : KnN U n) (k j : List UInt8) (hrk : right k = true) (hku : k ∈ U) (hkn : k.length < n) (hrj : right j = true) (hjn : j.length + 1 < n) (hp : right (80 :: j) = true → 80 :: j ∈ U) (m : Nat) (hkm : k.length ≤ m) (hjm : j.length + 1 ≤ m)
  (A bh bt : Nat) (S : List UInt8 → Bool) (f : List UInt8 → Option Bool) (w : World) (hG : GOk w) (hA : AskAt w A bh bt S f) (hT : Tld U S m f) :
  Calls Tryz.prog 92 #[.pointer (some ⟨A, 0, none⟩), .string (bs k), .string (bs j)] w (AskPost w A bh bt S U m f (agrB (kn S) k j)) := by
 have HG := Lib.hid hG
 have HA := Lib.hid hA
 have HT := Lib.hid hT
 have IH := Lib.hid ih
 have lj := (right_len hrj).2
 clear hG hA hT ih
 cases hc : ((pubT j).2 == 0 && head (pubT j).1 == 80) with
 | false =>
   have H : Hid (agrB (kn S) k j = false) := by show agrB (kn S) k j = false; unfold agrB; rw [hc]; rfl
   by_cases h0 : (pubT j).2 = 0
   · have hr : right (pubT j).1 = true := by
      unfold pubT made at h0 ⊢
      rw [if_pos hrj] at h0 ⊢
      split at h0
      · rename_i h; rw [if_pos h]; exact h
      · simp at h0
     obtain ⟨c, r, hcr⟩ := right_cons hr
     have hh : ((c.toNat : Int) == 80) = false := by
      rw [h0, hcr] at hc
      simp [head] at hc
      simp only [beq_eq_false_iff_ne, ne_eq]
      exact fun h => hc (UInt8.toNat_inj.1 (by rw [show c.toNat = 80 by omega]; rfl))
     have H0 := Lib.hid h0
     have HC := Lib.hid hcr
     clear hc h0 hcr hr
     go_enter Tryz.func92, Tryz.ntmps92
     go_wp2_with fail
     refine (tPub j om_ _ HG.out).mono ?_
     rintro e w1 ⟨rfl, hb1⟩
     rw [H0.out, HC.out]
     go_wp2_with fail
     go_ret
     exact ⟨by (rw [H.out]) <;> first | rfl | (simp; done), f, ask_below HA.out hb1, ext_refl _ _ _ _, gl_below hb1 (gl_refl _ _)⟩
   · have hz : ((pubT j).2 == 0) = false := by simp [h0]
     have HZ := Lib.hid hz
     clear hc h0 hz
     go_enter Tryz.func92, Tryz.ntmps92
     go_wp2_with fail
     refine (tPub j om_ _ HG.out).mono ?_
     rintro e w1 ⟨rfl, hb1⟩
     have hz := HZ.out
     generalize (pubT j).2 = z at *
     generalize (pubT j).1 = y at *
     go_wp2_with fail
     go_ret
     exact ⟨by (rw [H.out]) <;> first | rfl | (simp; done), f, ask_below HA.out hb1, ext_refl _ _ _ _, gl_below hb1 (gl_refl _ _)⟩
 | true =>
   obtain ⟨e1, e2, e3⟩ := pub_plain hc
   have H0 : Hid ((pubT j).2 = 0) := by
    show (pubT j).2 = 0
    rw [Bool.and_eq_true] at hc
    simpa using hc.1
   have H1 := Lib.hid e1
   have hpu := hp e2
   have h80 : (((80 : UInt8).toNat : Int) == 80) = true := rfl
   have HB : Hid (agrB (kn S) k j = (kn S k && kn S (80 :: j))) := by show agrB (kn S) k j = _; unfold agrB; rw [hc, e1, Bool.true_and]
   clear hc e1 hp
   go_enter Tryz.func92, Tryz.ntmps92
   go_wp2_with fail
   refine (tPub j om_ _ HG.out).mono ?_
   rintro e w1 ⟨rfl, hb1⟩
   rw [H0.out, H1.out]
   have HG1 := Lib.hid (gok_below HG.out hb1)
   have HA1 := Lib.hid (ask_below HA.out hb1)
   have hg1 : GL [bt] w w1 := gl_below hb1 (gl_refl _ _)
   clear hb1
   go_wp2_with fail
   refine (kn_le IH.out hkn hrk hku HG1.out HA1.out HT.out hkm).mono ?_
   rintro e w2 ⟨rfl, f2, hA2, hE2, hg2⟩
   have HA2 := Lib.hid hA2
   have HE2 := Lib.hid hE2
   have HG2 := Lib.hid (gok_bt HG1.out hg2 hA2.low)
   have hg3 : GL [bt] w w2 := gl_step hg2 hg1 (fun r hr => .inl hr)
   clear hA2 hE2
   cases hk : kn S k with
   | false =>
     have HK := Lib.hid hk
     clear hk
     go_wp2_with fail
     go_ret
     exact ⟨by rw [HB.out, HK.out]; rfl, f2, HA2.out, HE2.out, hg3⟩
   | true =>
     have HK := Lib.hid hk
     clear hk
     go_wp2_with fail
     refine (kn_le IH.out (t := 80 :: j) so_ e2 hpu HG2.out HA2.out (tld_ext HT.out HE2.out) so_).mono ?_
     rintro e w4 ⟨rfl, f4, hA4, hE4, hg4⟩
     have HA4 := Lib.hid hA4
     have HE4 := Lib.hid hE4
     clear hA4 hE4
     generalize kn S (80 :: j) = z at *
     go_wp2_with fail
     go_ret
     exact ⟨by rw [HB.out, HK.out]; rfl, f4, HA4.out, ext_trans HE2.out HE4.out, gl_step hg4 hg3 (fun r hr => .inl hr)⟩
theorem dAllF {U : List (List UInt8)} {n : Nat} (ih : KnN U n) (t : List UInt8) (hr : right t = true) (hu : t ∈ U) (hn : t.length < n) (m : Nat) (hm : t.length ≤ m) (X : Nat)
  (A bh bt : Nat) (S : List UInt8 → Bool) (f : List UInt8 → Option Bool) (w : World) (hG : GOk w) (hA : AskAt w A bh bt S f) (hT : Tld U S m f) (hX : w.heap[X]? = some (.cells #[.pointer (some ⟨A, 0, none⟩)] 101 (0, 0))) :
  Calls Tryz.prog 119 #[.string (bs t), .pointer (some ⟨X, 0, none⟩)] w (AskPost w A bh bt S U m f (!kn S t)) := by
 have HC := Lib.hid (kn_le ih hn hr hu hG hA hT hm)
 have a1 := blk_cell hX
 have a2 := blk_free hX
 have a3 := blk_lt hX
 clear hG hA hT hX ih
 go_enter Tryz.func119, Tryz.ntmps119
 go_wp2_with fail
 refine (HC.out).mono ?_
 rintro e w1 ⟨rfl, f2, hA2, hE2, hg2⟩
 have HA2 := Lib.hid hA2
 have HE2 := Lib.hid hE2
 clear hA2 hE2
 generalize kn S t = z at *
 go_wp2_with fail
 go_ret
 exact ⟨rfl, f2, HA2.out, HE2.out, hg2⟩
theorem all_any (l : List (List UInt8)) (q : List UInt8 → Bool) : (!l.any fun t => !q t) = l.all q := by
 induction l with
 | nil => rfl
 | cons a r ih => rw [List.any_cons, List.all_cons, ← ih]; cases q a <;> simp
theorem dAll {U : List (List UInt8)} {n : Nat} (ih : KnN U n) (ts : List (List UInt8)) (hts : ∀ t ∈ ts, right t = true ∧ t ∈ U ∧ t.length < n) (hl : ts.length ≤ 9000000000000000000) (m : Nat) (hm : ∀ t ∈ ts, t.length ≤ m) (v : Value)
  (A bh bt : Nat) (S : List UInt8 → Bool) (f : List UInt8 → Option Bool) (w : World) (hG : GOk w) (hA : AskAt w A bh bt S f) (hT : Tld U S m f) (hv : TermsAt v ts w) (hvb : ∀ b o c, v = .slice (some ⟨b, o, none⟩) ts.length c → b ≠ bt) :
  Calls Tryz.prog 94 #[.pointer (some ⟨A, 0, none⟩), v] w (AskPost w A bh bt S U m f (ts.all (kn S))) := by
 obtain ⟨ad, c, hvv, _⟩ := termsAt_open hv
 have HVB := Lib.hid hvb
 have HV := Lib.hid hv
 have HG := Lib.hid hG
 have HA := Lib.hid hA
 have HT := Lib.hid hT
 have IH := Lib.hid ih
 have HTS := Lib.hid hts
 have HM := Lib.hid hm
 clear hG hA hT ih hv hvb hts hm
 subst hvv
 have hlt := ask_lt HA.out
 go_enter Tryz.func94, Tryz.ntmps94
 go_wp2_with fail
 have HX := Lib.hid (blk_new w (.cells #[.pointer (some ⟨A, 0, none⟩)] 101))
 have hg1 : GL [] w (w.alloc (.cells #[.pointer (some ⟨A, 0, none⟩)] 101)) := gl_alloc (gl_refl _ _) _
 have HG1 := Lib.hid (gok_alloc HG.out (.cells #[.pointer (some ⟨A, 0, none⟩)] 101))
 have HV1 := Lib.hid (termsAt_glx HV.out hg1 si_)
 have HA1 := Lib.hid (ask_gl HA.out hg1 si_ si_ si_)
 generalize w.alloc (.cells #[.pointer (some ⟨A, 0, none⟩)] 101) = w1 at *
 have hXb : w.heap.size ≠ bt := by omega
 generalize w.heap.size = X at *
 refine (tContainsI 119 _ (fun _ _ => by kernel_rfl) (fun t => !kn S t) (fun W => ∃ f', AskAt W A bh bt S f' ∧ Ext U S m f f' ∧ GOk W ∧ W.heap[X]? = some (.cells #[.pointer (some ⟨A, 0, none⟩)] 101 (0, 0))) [bt] ts hl _ w1 HV1.out
  (fun b o c h => by simpa using HVB.out b o c h) ⟨f, HA1.out, ext_refl _ _ _ _, HG1.out, HX.out⟩ (fun W t ht hgw hI => ?_)).mono ?_
 · obtain ⟨f', hA', hE', hG', hX'⟩ := hI
   obtain ⟨r1, r2, r3⟩ := HTS.out t ht
   refine (dAllF IH.out t r1 r2 r3 m (HM.out t ht) X A bh bt S f' W hG' hA' (tld_ext HT.out hE') hX').mono ?_
   rintro e W' ⟨rfl, f3, hA3, hE3, hg3⟩
   exact ⟨rfl, ⟨f3, hA3, ext_trans hE' hE3, gok_bt hG' hg3 hA3.low, blk_gl hX' hg3 (by simpa using hXb)⟩, hg3⟩
 · rintro e w2 ⟨rfl, ⟨f', hA', hE', _, _⟩, hg2⟩
   have HA2 := Lib.hid hA'
   have HE2 := Lib.hid hE'
   have HL := Lib.hid (all_any ts (kn S))
   clear hA' hE'
   generalize (ts.any fun t => !kn S t) = z at *
   go_wp2_with fail
   go_ret
   exact ⟨by (rw [← HL.out]) <;> first | rfl | (simp; done), f', HA2.out, HE2.out, gl_step hg2 (gl_step hg1 (gl_refl [bt] w) si_) (fun r hr => .inl hr)⟩
end Go.Proofs.YtaaiaahkakkleaaGreatDoor
