/- The reference of layer 6: a text read. -/
import Derived.Test.YtembdkodajichaaGreatDoorRegT
import Derived.Test.YtembdkodajichaaGreatDoorInvE
import Derived.Test.YtembdkodajichaaGreatDoorR7J
set_option maxRecDepth 100000
set_option maxHeartbeats 8000000
set_option linter.unusedSimpArgs false
set_option linter.unusedVariables false
namespace Go.Proofs.YtembdkodajichaaGreatDoor
open Go.RowKit
def zc7_ (c : UInt8) : Nat := if zaN_ c < 32 then zaN_ c else 99
theorem zkT_ : ∀ (l : List UInt8) (c : UInt8) (i : Nat), i < l.length → l.getD i 0 = c → (∀ j, j < i → l.getD j 0 ≠ c) → zdA_ c l = i
 | [], _, _, h, _, _ => by simp at h
 | x :: r, c, 0, _, h, _ => by
   simp only [List.getD_cons_zero] at h
   rw [zdA_, if_pos h]
 | x :: r, c, i + 1, h, h1, h2 => by
   have h0 := h2 0 om_
   simp only [List.getD_cons_zero] at h0
   rw [zdA_, if_neg h0, zkT_ r c i (by simpa using h) (by simpa using h1) (fun j hj => by simpa using h2 (j + 1) om_)]
theorem zkU_ : ∀ (l : List UInt8) (c : UInt8), (∀ j, j < l.length → l.getD j 0 ≠ c) → zdA_ c l = l.length
 | [], _, _ => rfl
 | x :: r, c, h => by
   have h0 := h 0 si_
   simp only [List.getD_cons_zero] at h0
   rw [zdA_, if_neg h0, zkU_ r c (fun j hj => by simpa using h (j + 1) (by simpa using hj))]
   rfl
theorem zsL_ {c : UInt8} {i : Nat} (hi : i < 32) (h : letB.getD i 0 = c) (ha : ∀ j, j < i → letB.getD j 0 ≠ c) : zc7_ c = i := by
 unfold zc7_ zaN_
 rw [zkT_ letB c i hi h ha, if_pos hi]
theorem zsM_ {c : UInt8} (ha : ∀ j, j < 32 → letB.getD j 0 ≠ c) : zc7_ c = 99 := by
 unfold zc7_ zaN_
 rw [zkU_ letB c ha]
 rfl
theorem zsN_ (c : UInt8) (w : World) :
  Calls Tryz.prog 107 #[.int .u8 (c.toNat : Nat)] w fun e w' => e = .returned (.int .u8 (zc7_ c : Nat)) ∧ w' = w := by
 obtain ⟨k, hk⟩ : ∃ k : Nat, k = c.toNat := ⟨_, rfl⟩
 have HK := Lib.hid hk
 rw [← hk]
 clear hk
 go_enter Tryz.func107, Tryz.ntmps107
 go_wp2_with fail
 go_loopw [3] (fun iv wr => ∃ i : Nat, i ≤ 32 ∧ iv = .int .i64 i ∧ Hid (∀ j, j < i → letB.getD j 0 ≠ c) ∧ Hid (wr = w)) (fun iv _ => 32 - (intOf iv).toNat)
 case atStart => exact ⟨0, by omega, rfl, Lib.hid (fun j h => by omega), Lib.hid rfl⟩
 case round =>
  obtain ⟨i, hi, rfl, HA, hw⟩ := hrel
  obtain rfl := hw.out
  clear hw
  by_cases hlt : i < 32
  · have hix : ∀ W, (Instr.index 9 (.string (bs [113, 112, 122, 114, 121, 57, 120, 56, 103, 102, 50, 116, 118, 100, 119, 48, 115, 51, 106, 110, 53, 52, 107, 104, 99, 101, 54, 109, 117, 97, 55, 108])) (.int .i64 (i : Int))).run Tryz.prog W = .ok (.int .u8 ((letB.getD i 0).toNat : Nat)) W := fun W => zag_ W .i64 letB i hlt
    have hi0 : (0 : Int) ≤ i := by omega
    have hlb : decide ((i : Int) < 32) = true := by simp; omega
    have hwr : IntKind.u8.wrap (i : Int) = i := by rw [IntKind.wrap_u8]; omega
    by_cases he : letB.getD i 0 = c
    · have HW := Lib.hid (zsL_ hlt he HA.out)
      rw [he, ← HK.out] at hix
      have hkk : (((k : Nat) : Int) == k) = true := by simp
      clear he HA hlt
      go_wp2_with fail
      exact bodyPost_ret (v := .int .u8 (i : Int)) (by simp [results, Tryz.results107, go_sem]) rfl ⟨by rw [HW.out], rfl⟩
    · have HA2 : Hid (∀ j, j < i + 1 → letB.getD j 0 ≠ c) := Lib.hid (fun j h => by
       by_cases e : j = i
       · subst e; exact he
       · exact HA.out j om_)
      have hne : ((((letB.getD i 0).toNat : Nat) : Int) == k) = false := by
       simp only [beq_eq_false_iff_ne, ne_eq]
       intro h
       exact he (UInt8.toNat_inj.1 (by have := HK.out; omega))
      clear HA he
      generalize (letB.getD i 0).toNat = x at *
      go_wp2_with fail
      exact ⟨⟨i + 1, by omega, by go_num, HA2, by first | exact Lib.hid rfl | exact Lib.hid trivial⟩, by simp [intOf]; omega⟩
  · obtain rfl : i = 32 := by omega
    have HW := Lib.hid (zsM_ HA.out)
    clear HA hlt
    go_wp2_with fail
    exact bodyPost_ret (v := .int .u8 99) (by simp [results, Tryz.results107, go_sem]) rfl ⟨by rw [HW.out]; rfl, rfl⟩
def okS (s : List UInt8) : Bool := !(s.any k2_) || !(s.any v8_)
theorem zhH_ (f : UInt8 → Bool) (s : List UInt8) (i : Nat) (h : i < s.length) : (s.take (i + 1)).any f = ((s.take i).any f || f s[i]) := by
 rw [List.take_succ_eq_append_getElem h, List.any_append]
 simp
theorem zsO_ {c : UInt8} : (q2_ c = true ∧ c.toNat < 33) ∨ (q2_ c = true ∧ 33 ≤ c.toNat ∧ 126 < c.toNat) ∨
  (q2_ c = false ∧ k2_ c = false ∧ v8_ c = false ∧ w9_ c = c ∧ 33 ≤ c.toNat ∧ c.toNat < 65) ∨
  (q2_ c = false ∧ k2_ c = false ∧ v8_ c = true ∧ (w9_ c).toNat = c.toNat + 32 ∧ 65 ≤ c.toNat ∧ c.toNat ≤ 90) ∨
  (q2_ c = false ∧ k2_ c = false ∧ v8_ c = false ∧ w9_ c = c ∧ 90 < c.toNat ∧ c.toNat < 97) ∨
  (q2_ c = false ∧ k2_ c = true ∧ v8_ c = false ∧ w9_ c = c ∧ 97 ≤ c.toNat ∧ c.toNat ≤ 122) ∨
  (q2_ c = false ∧ k2_ c = false ∧ v8_ c = false ∧ w9_ c = c ∧ 122 < c.toNat ∧ c.toNat ≤ 126) := by
 unfold q2_ k2_ v8_ w9_
 simp only [Bool.or_eq_true, Bool.or_eq_false_iff, decide_eq_true_eq, decide_eq_false_iff_not]
 by_cases h1 : c.toNat < 33
 · exact .inl ⟨.inl om_, h1⟩
 by_cases h2 : 126 < c.toNat
 · exact .inr (.inl ⟨.inr om_, by omega, h2⟩)
 by_cases h3 : c.toNat < 65
 · exact .inr (.inr (.inl ⟨⟨by omega, by omega⟩, by omega, by omega, if_neg om_, by omega, h3⟩))
 by_cases h4 : c.toNat ≤ 90
 · refine .inr (.inr (.inr (.inl ⟨⟨by omega, by omega⟩, by omega, by omega, ?_, by omega, h4⟩)))
   rw [if_pos om_, UInt8.toNat_ofNat']
   omega
 by_cases h5 : c.toNat < 97
 · exact .inr (.inr (.inr (.inr (.inl ⟨⟨by omega, by omega⟩, by omega, by omega, if_neg om_, by omega, h5⟩))))
 by_cases h6 : c.toNat ≤ 122
 · exact .inr (.inr (.inr (.inr (.inr (.inl ⟨⟨by omega, by omega⟩, by omega, by omega, if_neg om_, by omega, h6⟩)))))
 · exact .inr (.inr (.inr (.inr (.inr (.inr ⟨⟨by omega, by omega⟩, by omega, by omega, if_neg om_, by omega, by omega⟩)))))
def zbl_ (s : List UInt8) : List UInt8 := if s.any q2_ = true then [] else s.map w9_
def zb6_ (s : List UInt8) : Bool := if s.any q2_ = true then false else okS s
theorem zsP_ (s : List UInt8) (hs : s.length ≤ 1000000) (w : World) :
  Calls Tryz.prog 106 #[.string (bs s)] w fun e w' => e = .returned (.tuple #[.string (bs (zbl_ s)), .bool (zb6_ s)]) ∧ Below w.heap.size w w' := by
 go_enter Tryz.func106, Tryz.ntmps106
 go_wp2_with fail
 go_loopw [4, 5, 6, 7] (fun lo hi v iv wr => ∃ i : Nat, i ≤ s.length ∧ iv = .int .i64 i ∧ lo = .bool ((s.take i).any k2_) ∧ hi = .bool ((s.take i).any v8_) ∧ Hid ((s.take i).any q2_ = false) ∧ Hid (x1_ w.heap.size v ((s.take i).map w9_) wr) ∧ Hid (GL [] w wr)) (fun _ _ _ iv _ => s.length - (intOf iv).toNat)
 case atStart => exact ⟨0, by omega, rfl, by simp, by simp, Lib.hid si_, Lib.hid (zbN_ _ _), Lib.hid (y1_ _ _)⟩
 case round =>
  obtain ⟨i, hi, rfl, rfl, rfl, HB, HO, HL⟩ := hrel
  obtain ⟨ad, c, hv⟩ := zaO_ HO.out
  subst hv
  have hlen : ((s.take i).map w9_).length = i := by rw [List.length_map, List.length_take]; omega
  rw [hlen] at HO ⊢
  by_cases hlt : i < s.length
  · have hix : ∀ W, (Instr.index 9 (.string (bs s)) (.int .i64 (i : Int))).run Tryz.prog W = .ok (.int .u8 ((s[i]).toNat : Nat)) W := fun W => by rw [zag_ W .i64 s i hlt, zak_ hlt]
    have hi0 : (0 : Int) ≤ i := by omega
    have hlb : decide ((i : Int) < s.length) = true := by simp; omega
    have HT := Lib.hid (zhr_ w9_ s i hlt)
    have H1 := Lib.hid (zhH_ k2_ s i hlt)
    have H2 := Lib.hid (zhH_ v8_ s i hlt)
    have H3 := Lib.hid (zhH_ q2_ s i hlt)
    have hmem : s[i] ∈ s := List.getElem_mem hlt
    have hc := s[i].toNat_lt
    rcases zsO_ (c := s[i]) with ⟨hb, hx⟩ | ⟨hb, hx0, hx⟩ | ⟨hb, hl, hu, hw, x1, x2⟩ | ⟨hb, hl, hu, hw, x1, x2⟩ | ⟨hb, hl, hu, hw, x1, x2⟩ | ⟨hb, hl, hu, hw, x1, x2⟩ | ⟨hb, hl, hu, hw, x1, x2⟩
    · have HS : Hid (zbl_ s = [] ∧ zb6_ s = false) := Lib.hid (by
       have : s.any q2_ = true := List.any_eq_true.2 ⟨_, hmem, hb⟩
       unfold zbl_ zb6_
       rw [this]
       exact ⟨rfl, rfl⟩)
      clear hb hmem HT H1 H2 H3 HB HO hlen
      generalize s[i].toNat = x at *
      generalize (s.take i).any k2_ = lo at *
      generalize (s.take i).any v8_ = hi2 at *
      have d1 : decide ((x : Int) < 33) = true := by simp; omega
      go_wp2_with fail
      exact bodyPost_ret (v := .tuple #[.string (bs []), .bool false]) (by simp [results, Tryz.results106, go_sem]) rfl ⟨by rw [HS.out.1, HS.out.2], y0_ HL.out⟩
    · have HS : Hid (zbl_ s = [] ∧ zb6_ s = false) := Lib.hid (by
       have : s.any q2_ = true := List.any_eq_true.2 ⟨_, hmem, hb⟩
       unfold zbl_ zb6_
       rw [this]
       exact ⟨rfl, rfl⟩)
      clear hb hmem HT H1 H2 H3 HB HO hlen
      generalize s[i].toNat = x at *
      generalize (s.take i).any k2_ = lo at *
      generalize (s.take i).any v8_ = hi2 at *
      have d1 : decide ((x : Int) < 33) = false := by simp; omega
      have d2 : decide ((126 : Int) < x) = true := by simp; omega
      go_wp2_with fail
      exact bodyPost_ret (v := .tuple #[.string (bs []), .bool false]) (by simp [results, Tryz.results106, go_sem]) rfl ⟨by rw [HS.out.1, HS.out.2], y0_ HL.out⟩
    · have HB2 : Hid ((s.take (i + 1)).any q2_ = false) := Lib.hid (by rw [H3.out, HB.out, hb]; rfl)
      have HW := Lib.hid hw
      have HL4 : Hid ((s.take (i + 1)).any k2_ = (s.take i).any k2_) := Lib.hid (by rw [H1.out, hl]; simp)
      have HU4 : Hid ((s.take (i + 1)).any v8_ = (s.take i).any v8_) := Lib.hid (by rw [H2.out, hu]; simp)
      have hX : (s[i].toNat : Int) = ((w9_ s[i]).toNat : Nat) := by rw [hw]
      obtain ⟨g3, c3, w3, hrun3, hown3, hl3⟩ := zbj_ w wr _ _ (w9_ s[i]) (s[i].toNat : Int) hX HO.out (by rw [hlen]; omega) HL.out
      rw [hlen] at hrun3 hown3
      rw [← HT.out] at hown3
      have HRUN := Lib.hid hrun3
      have HO3 := Lib.hid hown3
      have HL3 := Lib.hid hl3
      clear hrun3 hown3 hl3 hX hw hb hl hu hmem HT H1 H2 H3 HB HO hlen HW
      generalize s[i].toNat = x at *
      generalize hlo : (s.take i).any k2_ = lo at *
      generalize hhi : (s.take i).any v8_ = hi2 at *
      clear hlo hhi
      have d1 : decide ((x : Int) < 33) = false := by simp; omega
      have d2 : decide ((126 : Int) < x) = false := by simp; omega
      have d3 : decide ((97 : Int) ≤ x) = false := by simp; omega
      have d5 : decide ((65 : Int) ≤ x) = false := by simp; omega
      go_wp2_with (first | ((with_reducible (at_builtin; refine w8_ _ rfl (.tmp 38) (.tmp 40) 47 47 rfl _ _ ?ha ?hb HRUN.out ?_)); (case ha => simp [Act.eval, Act.put]); (case hb => simp [Act.eval, Act.put])))
      exact ⟨⟨i + 1, by omega, by go_num, by rw [HL4.out], by rw [HU4.out], HB2, HO3, HL3⟩, by simp [intOf]; omega⟩
    · have HB2 : Hid ((s.take (i + 1)).any q2_ = false) := Lib.hid (by rw [H3.out, HB.out, hb]; rfl)
      have HW := Lib.hid hw
      have HL4 : Hid ((s.take (i + 1)).any k2_ = (s.take i).any k2_) := Lib.hid (by rw [H1.out, hl]; simp)
      have HU4 : Hid ((s.take (i + 1)).any v8_ = true) := Lib.hid (by rw [H2.out, hu]; simp)
      have hX : ((s[i].toNat : Int) + 32) = ((w9_ s[i]).toNat : Nat) := by rw [hw]; simp
      obtain ⟨g3, c3, w3, hrun3, hown3, hl3⟩ := zbj_ w wr _ _ (w9_ s[i]) ((s[i].toNat : Int) + 32) hX HO.out (by rw [hlen]; omega) HL.out
      rw [hlen] at hrun3 hown3
      rw [← HT.out] at hown3
      have HRUN := Lib.hid hrun3
      have HO3 := Lib.hid hown3
      have HL3 := Lib.hid hl3
      clear hrun3 hown3 hl3 hX hw hb hl hu hmem HT H1 H2 H3 HB HO hlen HW
      generalize s[i].toNat = x at *
      generalize hlo : (s.take i).any k2_ = lo at *
      generalize hhi : (s.take i).any v8_ = hi2 at *
      clear hlo hhi
      have d1 : decide ((x : Int) < 33) = false := by simp; omega
      have d2 : decide ((126 : Int) < x) = false := by simp; omega
      have d3 : decide ((97 : Int) ≤ x) = false := by simp; omega
      have d5 : decide ((65 : Int) ≤ x) = true := by simp; omega
      have d6 : decide ((x : Int) ≤ 90) = true := by simp; omega
      go_wp2_with (first | ((with_reducible (at_builtin; refine w8_ _ rfl (.tmp 38) (.tmp 40) 47 47 rfl _ _ ?ha ?hb HRUN.out ?_)); (case ha => simp [Act.eval, Act.put]); (case hb => simp [Act.eval, Act.put])))
      exact ⟨⟨i + 1, by omega, by go_num, by rw [HL4.out], by rw [HU4.out], HB2, HO3, HL3⟩, by simp [intOf]; omega⟩
    · have HB2 : Hid ((s.take (i + 1)).any q2_ = false) := Lib.hid (by rw [H3.out, HB.out, hb]; rfl)
      have HW := Lib.hid hw
      have HL4 : Hid ((s.take (i + 1)).any k2_ = (s.take i).any k2_) := Lib.hid (by rw [H1.out, hl]; simp)
      have HU4 : Hid ((s.take (i + 1)).any v8_ = (s.take i).any v8_) := Lib.hid (by rw [H2.out, hu]; simp)
      have hX : (s[i].toNat : Int) = ((w9_ s[i]).toNat : Nat) := by rw [hw]
      obtain ⟨g3, c3, w3, hrun3, hown3, hl3⟩ := zbj_ w wr _ _ (w9_ s[i]) (s[i].toNat : Int) hX HO.out (by rw [hlen]; omega) HL.out
      rw [hlen] at hrun3 hown3
      rw [← HT.out] at hown3
      have HRUN := Lib.hid hrun3
      have HO3 := Lib.hid hown3
      have HL3 := Lib.hid hl3
      clear hrun3 hown3 hl3 hX hw hb hl hu hmem HT H1 H2 H3 HB HO hlen HW
      generalize s[i].toNat = x at *
      generalize hlo : (s.take i).any k2_ = lo at *
      generalize hhi : (s.take i).any v8_ = hi2 at *
      clear hlo hhi
      have d1 : decide ((x : Int) < 33) = false := by simp; omega
      have d2 : decide ((126 : Int) < x) = false := by simp; omega
      have d3 : decide ((97 : Int) ≤ x) = false := by simp; omega
      have d5 : decide ((65 : Int) ≤ x) = true := by simp; omega
      have d6 : decide ((x : Int) ≤ 90) = false := by simp; omega
      go_wp2_with (first | ((with_reducible (at_builtin; refine w8_ _ rfl (.tmp 38) (.tmp 40) 47 47 rfl _ _ ?ha ?hb HRUN.out ?_)); (case ha => simp [Act.eval, Act.put]); (case hb => simp [Act.eval, Act.put])))
      exact ⟨⟨i + 1, by omega, by go_num, by rw [HL4.out], by rw [HU4.out], HB2, HO3, HL3⟩, by simp [intOf]; omega⟩
    · have HB2 : Hid ((s.take (i + 1)).any q2_ = false) := Lib.hid (by rw [H3.out, HB.out, hb]; rfl)
      have HW := Lib.hid hw
      have HL4 : Hid ((s.take (i + 1)).any k2_ = true) := Lib.hid (by rw [H1.out, hl]; simp)
      have HU4 : Hid ((s.take (i + 1)).any v8_ = (s.take i).any v8_) := Lib.hid (by rw [H2.out, hu]; simp)
      have hX : (s[i].toNat : Int) = ((w9_ s[i]).toNat : Nat) := by rw [hw]
      obtain ⟨g3, c3, w3, hrun3, hown3, hl3⟩ := zbj_ w wr _ _ (w9_ s[i]) (s[i].toNat : Int) hX HO.out (by rw [hlen]; omega) HL.out
      rw [hlen] at hrun3 hown3
      rw [← HT.out] at hown3
      have HRUN := Lib.hid hrun3
      have HO3 := Lib.hid hown3
      have HL3 := Lib.hid hl3
      clear hrun3 hown3 hl3 hX hw hb hl hu hmem HT H1 H2 H3 HB HO hlen HW
      generalize s[i].toNat = x at *
      generalize hlo : (s.take i).any k2_ = lo at *
      generalize hhi : (s.take i).any v8_ = hi2 at *
      clear hlo hhi
      have d1 : decide ((x : Int) < 33) = false := by simp; omega
      have d2 : decide ((126 : Int) < x) = false := by simp; omega
      have d3 : decide ((97 : Int) ≤ x) = true := by simp; omega
      have d4 : decide ((x : Int) ≤ 122) = true := by simp; omega
      have d5 : decide ((65 : Int) ≤ x) = true := by simp; omega
      have d6 : decide ((x : Int) ≤ 90) = false := by simp; omega
      go_wp2_with (first | ((with_reducible (at_builtin; refine w8_ _ rfl (.tmp 38) (.tmp 40) 47 47 rfl _ _ ?ha ?hb HRUN.out ?_)); (case ha => simp [Act.eval, Act.put]); (case hb => simp [Act.eval, Act.put])))
      exact ⟨⟨i + 1, by omega, by go_num, by rw [HL4.out], by rw [HU4.out], HB2, HO3, HL3⟩, by simp [intOf]; omega⟩
    · have HB2 : Hid ((s.take (i + 1)).any q2_ = false) := Lib.hid (by rw [H3.out, HB.out, hb]; rfl)
      have HW := Lib.hid hw
      have HL4 : Hid ((s.take (i + 1)).any k2_ = (s.take i).any k2_) := Lib.hid (by rw [H1.out, hl]; simp)
      have HU4 : Hid ((s.take (i + 1)).any v8_ = (s.take i).any v8_) := Lib.hid (by rw [H2.out, hu]; simp)
      have hX : (s[i].toNat : Int) = ((w9_ s[i]).toNat : Nat) := by rw [hw]
      obtain ⟨g3, c3, w3, hrun3, hown3, hl3⟩ := zbj_ w wr _ _ (w9_ s[i]) (s[i].toNat : Int) hX HO.out (by rw [hlen]; omega) HL.out
      rw [hlen] at hrun3 hown3
      rw [← HT.out] at hown3
      have HRUN := Lib.hid hrun3
      have HO3 := Lib.hid hown3
      have HL3 := Lib.hid hl3
      clear hrun3 hown3 hl3 hX hw hb hl hu hmem HT H1 H2 H3 HB HO hlen HW
      generalize s[i].toNat = x at *
      generalize hlo : (s.take i).any k2_ = lo at *
      generalize hhi : (s.take i).any v8_ = hi2 at *
      clear hlo hhi
      have d1 : decide ((x : Int) < 33) = false := by simp; omega
      have d2 : decide ((126 : Int) < x) = false := by simp; omega
      have d3 : decide ((97 : Int) ≤ x) = true := by simp; omega
      have d4 : decide ((x : Int) ≤ 122) = false := by simp; omega
      have d5 : decide ((65 : Int) ≤ x) = true := by simp; omega
      have d6 : decide ((x : Int) ≤ 90) = false := by simp; omega
      go_wp2_with (first | ((with_reducible (at_builtin; refine w8_ _ rfl (.tmp 38) (.tmp 40) 47 47 rfl _ _ ?ha ?hb HRUN.out ?_)); (case ha => simp [Act.eval, Act.put]); (case hb => simp [Act.eval, Act.put])))
      exact ⟨⟨i + 1, by omega, by go_num, by rw [HL4.out], by rw [HU4.out], HB2, HO3, HL3⟩, by simp [intOf]; omega⟩
  · obtain rfl : i = s.length := by omega
    have hlb : decide ((s.length : Int) < s.length) = false := by simp
    rw [List.take_of_length_le (Nat.le_refl _)] at HB HO ⊢
    have HS : Hid (zbl_ s = s.map w9_ ∧ zb6_ s = (!(s.any k2_) || !(s.any v8_))) := Lib.hid (by
     unfold zbl_ zb6_ okS
     rw [HB.out]
     exact ⟨rfl, rfl⟩)
    have hcv := zeE_ 9 Tryz.underlying9 _ _ wr (zaT_ HO.out).1
    clear hlt HB
    generalize s.any k2_ = lo at *
    generalize s.any v8_ = hi2 at *
    cases lo with
    | false =>
      go_wp2_with fail
      exact bodyPost_ret (v := .tuple #[.string (bs (s.map w9_)), .bool true]) (by simp [results, Tryz.results106, go_sem]) rfl ⟨by rw [HS.out.1, HS.out.2]; rfl, y0_ HL.out⟩
    | true =>
      go_wp2_with fail
      exact bodyPost_ret (v := .tuple #[.string (bs (s.map w9_)), .bool (!hi2)]) (by simp [results, Tryz.results106, go_sem]) rfl ⟨by rw [HS.out.1, HS.out.2]; rfl, y0_ HL.out⟩
theorem zsQ_ (s : List UInt8) : zcQ_ s = (!(zb6_ s) || farI (j0_ (zbl_ s)) (zbl_ s).length) := by
 rw [zjU_]
 unfold zb6_ zbl_ okS
 by_cases h : s.any q2_ = true
 · rw [if_pos h, if_pos h, h]; simp
 · rw [if_neg h, if_neg h]
   have h2 : j0_ (s.map w9_) = j0_ s := by unfold j0_; rw [zid_]
   have h3 : s.any q2_ = false := by simpa using h
   rw [h2, h3, List.length_map]
   cases s.any k2_ <;> cases s.any v8_ <;> simp
theorem zsR_ {s : List UInt8} (h : zb6_ s = true) : zbl_ s = s.map w9_ := by
 unfold zb6_ at h
 unfold zbl_
 by_cases hb : s.any q2_ = true
 · rw [if_pos hb] at h; cases h
 · rw [if_neg hb]
theorem zsS_ (s : List UInt8) : (zbl_ s).length ≤ s.length := by
 unfold zbl_
 split
 · simp
 · rw [List.length_map]; exact Nat.le_refl _
theorem zsT_ {T : List UInt8} (h : ∀ j, j < T.length → T.getD j 0 ≠ 49) : j0_ T = -1 := by
 unfold j0_
 rw [zgn_ (fun c hc => ?_)]
 obtain ⟨j, hj, rfl⟩ := List.getElem_of_mem hc
 have := h j hj
 rwa [zak_ hj] at this
theorem zsU_ {T : List UInt8} {a : Nat} (ha : a < T.length) (h49 : T.getD a 0 = 49) (h : ∀ j, a + 1 ≤ j → j < T.length → T.getD j 0 ≠ 49) : q7_ T = some a := by
 have e : T = T.take a ++ 49 :: T.drop (a + 1) := by
  rw [← h49, zak_ ha]
  simp
 have hn : q7_ (T.drop (a + 1)) = none := zgn_ (fun c hc => by
  obtain ⟨j, hj, rfl⟩ := List.getElem_of_mem hc
  rw [List.length_drop] at hj
  have := h (a + 1 + j) om_ om_
  rwa [zak_ om_, ← List.getElem_drop] at this)
 rw [e, zgm_, q7_, hn]
 simp
 omega
theorem zsV_ (s : List UInt8) (hs : s.length ≤ 1000000) (w : World) :
  Calls Tryz.prog 55 #[.string (bs s)] w fun e w' => DecO s e w' ∧ Below w.heap.size w w' := by
 by_cases hlo : 32768 < s.length
 · have HE := Lib.hid (zjS_ hlo)
   have h1 : decide ((32768 : Int) < s.length) = true := by simp; omega
   clear hlo
   go_enter Tryz.func55, Tryz.ntmps55
   go_wp2_with fail
   exact bodyPost_ret (v := .tuple #[.string (bs []), .slice none 0 0, .int .i64 3]) (by simp [results, Tryz.results55, go_sem]) rfl ⟨zbE_ HE.out de_, bl_⟩
 · have h1 : decide ((32768 : Int) < s.length) = false := by simp; omega
   have HLO := Lib.hid hlo
   have hl : s.length ≤ 32768 := by omega
   have HDB := Lib.hid (zsQ_ s)
   have HTE : Hid (zb6_ s = true → zbl_ s = s.map w9_) := Lib.hid zsR_
   have hTl : (zbl_ s).length ≤ 32768 := Nat.le_trans (zsS_ s) hl
   clear hlo
   go_enter Tryz.func55, Tryz.ntmps55
   go_wp2_with fail
   refine (zsP_ s om_ w).mono ?_
   rintro e w1 ⟨rfl, hb1⟩
   have HL1 : Hid (GL [] w w1) := Lib.hid (y6_ hb1 (y1_ _ _))
   clear hb1
   generalize zbl_ s = T at *
   generalize zb6_ s = B at *
   go_wp2_with fail
   go_loopw [7] (fun av wr => ∃ k : Nat, k ≤ T.length ∧ av = .int .i64 ((k : Int) - 1) ∧ Hid (∀ j, k ≤ j → j < T.length → T.getD j 0 ≠ 49) ∧ Hid (wr = w1)) (fun av _ => (intOf av + 1).toNat)
   case atStart => exact ⟨T.length, Nat.le_refl _, rfl, Lib.hid (fun j h1 h2 => by omega), Lib.hid rfl⟩
   case round =>
    obtain ⟨k, hk, rfl, HN, hw⟩ := hrel
    have hw2 := hw.out
    subst hw2
    by_cases h0 : k = 0
    · subst h0
      have HPL := Lib.hid (zsT_ (T := T) (fun j hj => HN.out j om_ hj))
      have HE : Hid (v9_ s = 60) := Lib.hid (zdp_ HLO.out (by rw [HDB.out, HPL.out]; simp [farI]))
      clear HN HDB
      rw [show ((0 : Nat) : Int) - 1 = -1 by omega]
      cases B with
      | false =>
        go_wp2_with fail
        exact bodyPost_ret (v := .tuple #[.string (bs []), .slice none 0 0, .int .i64 60]) (by simp [results, Tryz.results55, go_sem]) rfl ⟨zbE_ HE.out de_, y0_ HL1.out⟩
      | true =>
        go_wp2_with fail
        exact bodyPost_ret (v := .tuple #[.string (bs []), .slice none 0 0, .int .i64 60]) (by simp [results, Tryz.results55, go_sem]) rfl ⟨zbE_ HE.out de_, y0_ HL1.out⟩
    · obtain ⟨a, rfl⟩ : ∃ a, k = a + 1 := ⟨k - 1, by omega⟩
      rw [show ((a + 1 : Nat) : Int) - 1 = a by omega]
      have ha : a < T.length := by omega
      have hix : ∀ W, (Instr.index 9 (.string (bs T)) (.int .i64 (a : Int))).run Tryz.prog W = .ok (.int .u8 ((T.getD a 0).toNat : Nat)) W := fun W => zag_ W .i64 T a ha
      have ha0 : (0 : Int) ≤ a := by omega
      have hge : decide ((0 : Int) ≤ a) = true := by simp
      by_cases h49 : T.getD a 0 = 49
      · have HPL := Lib.hid (zsU_ ha h49 HN.out)
        have hne : ((((T.getD a 0).toNat : Nat) : Int) != 49) = false := by rw [h49]; rfl
        have hxe : (((T.getD a 0).toNat : Nat) : Int) = 49 := by rw [h49]; rfl
        rw [hxe] at hix
        clear HN h49 hne hxe h0 hk
        have HDB : Hid (zcQ_ s = (!B || farI (a : Int) T.length)) := Lib.hid (by rw [HDB.out]; unfold j0_; rw [HPL.out])
        have hxx : (49 : Int) ≠ 49 → False := fun h => h rfl
        clear hxx
        cases B with
        | false =>
          have HE : Hid (v9_ s = 60) := Lib.hid (zdp_ HLO.out (by rw [HDB.out]; rfl))
          clear HDB HTE
          go_wp2_with fail
          exact bodyPost_ret (v := .tuple #[.string (bs []), .slice none 0 0, .int .i64 60]) (by simp [results, Tryz.results55, go_sem]) rfl ⟨zbE_ HE.out de_, y0_ HL1.out⟩
        | true =>
          have HTE := Lib.hid (HTE.out rfl)
          by_cases q1 : a < 1
          · have HE : Hid (v9_ s = 60) := Lib.hid (zdp_ HLO.out (by rw [HDB.out]; unfold farI; simp; omega))
            have q1' : decide ((a : Int) < 1) = true := by simp; omega
            clear HDB q1
            go_wp2_with fail
            exact bodyPost_ret (v := .tuple #[.string (bs []), .slice none 0 0, .int .i64 60]) (by simp [results, Tryz.results55, go_sem]) rfl ⟨zbE_ HE.out de_, y0_ HL1.out⟩
          · have q1' : decide ((a : Int) < 1) = false := by simp; omega
            by_cases q2 : 83 < a
            · have HE : Hid (v9_ s = 60) := Lib.hid (zdp_ HLO.out (by rw [HDB.out]; unfold farI; simp; omega))
              have q2' : decide ((83 : Int) < a) = true := by simp; omega
              clear HDB q1 q2
              go_wp2_with fail
              exact bodyPost_ret (v := .tuple #[.string (bs []), .slice none 0 0, .int .i64 60]) (by simp [results, Tryz.results55, go_sem]) rfl ⟨zbE_ HE.out de_, y0_ HL1.out⟩
            · have q2' : decide ((83 : Int) < a) = false := by simp; omega
              by_cases q3 : T.length ≤ a + 6
              · have HE : Hid (v9_ s = 60) := Lib.hid (zdp_ HLO.out (by rw [HDB.out]; unfold farI; simp; omega))
                have q3' : decide ((T.length : Int) - a - 1 < 6) = true := by simp; omega
                clear HDB q1 q2 q3
                go_wp2_with fail
                exact bodyPost_ret (v := .tuple #[.string (bs []), .slice none 0 0, .int .i64 60]) (by simp [results, Tryz.results55, go_sem]) rfl ⟨zbE_ HE.out de_, y0_ HL1.out⟩
              · have q3' : decide ((T.length : Int) - a - 1 < 6) = false := by simp; omega
                have HDB2 : Hid (zcQ_ s = false) := Lib.hid (by rw [HDB.out]; unfold farI; simp; omega)
                have hlen : a + 7 ≤ T.length := by omega
                have HAT : Hid (q7_ s = some a) := Lib.hid (by rw [← zid_, ← HTE.out]; exact HPL.out)
                have HTW : Hid (w2_ s = (T.drop (a + 1)).map fun c => UInt8.ofNat (zaN_ c)) := Lib.hid (by unfold w2_ atOf; rw [HAT.out, HTE.out]; rfl)
                have HDH : Hid (x5_ s = T.take a) := Lib.hid (by unfold x5_ atOf; rw [HAT.out, HTE.out]; rfl)
                clear HDB HPL HTE HAT q1 q2 q3
                go_wp2_with fail
                go_loopw [8, 9] (fun ov iv wr => ∃ p : Nat, a + 1 ≤ p ∧ p ≤ T.length ∧ iv = .int .i64 p ∧ Hid (∀ x ∈ (w2_ s).take (p - (a + 1)), x.toNat ≤ 31) ∧ Hid (x1_ w.heap.size ov ((w2_ s).take (p - (a + 1))) wr) ∧ Hid (GL [] w wr)) (fun _ iv _ => T.length - (intOf iv).toNat)
                case atStart => exact ⟨a + 1, by omega, by omega, by go_num, Lib.hid si_, Lib.hid (by rw [Nat.sub_self, List.take_zero]; exact zbN_ _ _), HL1⟩
                case round =>
                 obtain ⟨p, hp1, hp2, rfl, h31, hor, hgr⟩ := hrel
                 have htl : (w2_ s).length = T.length - (a + 1) := by rw [HTW.out, List.length_map, List.length_drop]
                 obtain ⟨oa, oc, rfl⟩ := zaO_ hor.out
                 have hln : ((w2_ s).take (p - (a + 1))).length = p - (a + 1) := by rw [List.length_take, htl]; omega
                 rw [hln] at hor ⊢
                 by_cases hlt : p < T.length
                 · have p1 : decide ((p : Int) < T.length) = true := by simp; omega
                   have hix2 : ∀ W, (Instr.index 9 (.string (bs T)) (.int .i64 (p : Int))).run Tryz.prog W = .ok (.int .u8 ((T.getD p 0).toNat : Nat)) W := fun W => zag_ W .i64 T p hlt
                   have HTS := Lib.hid (zjV_ HTW.out hp1 hlt)
                   have HWC := Lib.hid (fun W => zsN_ (T.getD p 0) W)
                   have hwl := zic_ (T.getD p 0)
                   by_cases hx : zaN_ (T.getD p 0) ≤ 31
                   · have hww : zc7_ (T.getD p 0) = zaN_ (T.getD p 0) := by unfold zc7_; rw [if_pos om_]
                     rw [hww] at HWC
                     generalize zaN_ (T.getD p 0) = wd at *
                     generalize (T.getD p 0).toNat = c at *
                     have hu8 : (UInt8.ofNat wd).toNat = wd := by rw [UInt8.toNat_ofNat']; omega
                     have hn99 : (((wd : Nat) : Int) == 99) = false := by simp; omega
                     obtain ⟨g3, c3, w3, hrun3, hown3, hl3⟩ := zbj_ w wr _ _ (UInt8.ofNat wd) (wd : Int) (by rw [hu8]) hor.out (by rw [hln]; omega) hgr.out
                     rw [hln] at hrun3 hown3
                     rw [← HTS.out] at hown3
                     have HRUN := Lib.hid hrun3
                     have HO3 := Lib.hid hown3
                     have HL3 := Lib.hid hl3
                     have H31 : Hid (∀ x ∈ (w2_ s).take (p + 1 - (a + 1)), x.toNat ≤ 31) := Lib.hid (fun x hx => by
                      rw [HTS.out] at hx
                      rcases List.mem_append.1 hx with h | h
                      · exact h31.out x h
                      · rw [List.mem_singleton.1 h, hu8]; omega)
                     have hpp : p - (a + 1) + 1 = p + 1 - (a + 1) := by omega
                     rw [hpp] at HRUN HO3
                     clear hrun3 hown3 hl3 hln hu8 hx hwl hww
                     go_wp2_with (first | (go_at_call 107; refine (HWC.out _).mono ?_; rintro e w9 ⟨rfl, rfl⟩) | ((with_reducible (at_builtin; refine w8_ _ rfl (.tmp 63) (.tmp 68) 47 47 rfl _ _ ?ha ?hb HRUN.out ?_)); (case ha => simp [Act.eval, Act.put]); (case hb => simp [Act.eval, Act.put])))
                     exact ⟨⟨p + 1, by omega, by omega, by go_num, H31, by rw [show p - a = p + 1 - (a + 1) by omega]; exact HO3, HL3⟩, by simp [intOf]; omega⟩
                   · have HW : Hid (zc7_ (T.getD p 0) = 99) := Lib.hid (by unfold zc7_; rw [if_neg om_])
                     have HE : Hid (v9_ s = 60) := Lib.hid (zjT_ HLO.out HDB2.out (List.any_eq_true.2 ⟨UInt8.ofNat (zaN_ (T.getD p 0)), List.mem_of_mem_take (by rw [HTS.out]; simp), by rw [decide_eq_true_eq, UInt8.toNat_ofNat']; omega⟩))
                     rw [HW.out] at HWC
                     generalize (T.getD p 0).toNat = c at *
                     clear hx hwl HW HTS
                     go_wp2_with (first | (refine (HWC.out _).mono ?_; rintro e w9 ⟨rfl, rfl⟩))
                     exact bodyPost_ret (v := .tuple #[.string (bs []), .slice none 0 0, .int .i64 60]) (by simp [results, Tryz.results55, go_sem]) rfl ⟨zbE_ HE.out de_, y0_ hgr.out⟩
                 · obtain rfl : p = T.length := by omega
                   have p1 : decide ((T.length : Int) < T.length) = false := by simp
                   have hfull := hor.out
                   rw [List.take_of_length_le om_] at hfull
                   have h31f := h31.out
                   rw [List.take_of_length_le om_] at h31f
                   rw [show T.length - (a + 1) = (w2_ s).length by omega] at hfull ⊢
                   have HANY : Hid ((w2_ s).any (fun x => decide (31 < x.toNat)) = false) := Lib.hid (by
                    rw [Bool.eq_false_iff]
                    intro h2
                    simp only [List.any_eq_true, decide_eq_true_eq] at h2
                    obtain ⟨x, hx, h3⟩ := h2
                    have := h31f x hx
                    omega)
                   have HOWN := Lib.hid hfull
                   have hq6 : 6 ≤ (w2_ s).length := by omega
                   have hq32 : (w2_ s).length ≤ 32768 := by omega
                   have ha2 : (a : Int) ≤ T.length := by omega
                   clear hor hfull h31 h31f hlt hp1 hp2 hix
                   have hTa : (T.take a).length ≤ 32768 := by rw [List.length_take]; omega
                   have HE : Hid (v9_ s = if poly 1 (hrpW (T.take a) ++ w2_ s) = 1 then 0 else 61) := Lib.hid (by
                    rw [zcN_]
                    show v9_ s = if poly (zbb_ (T.take a)) (w2_ s) = 1 then 0 else 61
                    unfold v9_
                    rw [if_neg HLO.out, if_neg (by rw [HDB2.out]; simp), if_neg (by rw [HANY.out]; simp), HDH.out]
                    by_cases h : poly (zbb_ (T.take a)) (w2_ s) = 1
                    · rw [if_neg (by simp [h]), if_pos h]
                    · rw [if_pos h, if_neg h])
                   have HWD : Hid (k4_ s = (w2_ s).take ((w2_ s).length - 6)) := Lib.hid rfl
                   clear HDB2 HANY HLO HTW htl hlen h1 q1' q2' q3' hTl
                   go_wp2_with fail
                   refine (zqt_ (T.take a) om_ wr).mono ?_
                   rintro e w4 ⟨hv, rfl, hho, hb4⟩
                   obtain ⟨had, hac, hhv⟩ := zaO_ hho
                   subst hhv
                   have hHl : (hrpW (T.take a)).length ≤ 100000 := by
                    have : (hrpW (T.take a)).length = 2 * (T.take a).length + 1 := by simp only [hrpW, List.length_append, List.length_cons, List.length_map]; omega
                    omega
                   generalize hrpW (T.take a) = hw at *
                   have hg4 : GL [] wr w4 := y6_ hb4 (y1_ _ _)
                   have hIN4 := za1_ (zaT_ HOWN.out).1 hg4
                   obtain ⟨ad5, c5, w5, hrun5, hown5, hgr5⟩ := zcZ_ wr.heap.size _ (.slice oa (w2_ s).length oc) hw (w2_ s) w4 hho hIN4 om_ hg4.size
                   have hg5 : GL [] wr w5 := y7_ hgr5 hg4 (fun r hr => .inr (v4_ hho r (by simpa using hr)).1)
                   have hlA : (hw ++ w2_ s).length = hw.length + (w2_ s).length := List.length_append
                   have HL5 : Hid (GL [] w w5) := Lib.hid (y7_ hg5 hgr.out si_)
                   have HIN5 := Lib.hid (za1_ (zaT_ HOWN.out).1 hg5)
                   have HRUN := Lib.hid hrun5
                   have HO5 := Lib.hid hown5
                   clear hrun5 hown5 hgr5 hg5 hIN4 hg4 hho hb4 hgr HOWN
                   go_wp2_with (first | ((with_reducible (at_builtin; refine w8_ _ rfl (.tmp 74) (.tmp 75) 47 47 rfl _ _ ?ha ?hb HRUN.out ?_)); (case ha => simp [Act.eval, Act.put]); (case hb => simp [Act.eval, Act.put])))
                   refine (zro_ (hw ++ w2_ s) (by rw [hlA]; omega) _ w5 (zaT_ HO5.out).1).mono ?_
                   rintro e w6 ⟨rfl, hb6⟩
                   have HL6 : Hid (GL [] w w6) := Lib.hid (y6_ hb6 HL5.out)
                   have HIN6 := Lib.hid (za1_ HIN5.out (y6_ hb6 (y1_ _ _)))
                   generalize poly 1 (hw ++ w2_ s) = P at *
                   clear hb6 HL5 HIN5 HRUN HO5 hlA
                   by_cases h1 : P = 1
                   · subst h1
                     have HE0 : Hid (v9_ s = 0) := Lib.hid (by rw [HE.out, if_pos rfl])
                     obtain ⟨aa, ac, e0, hcap, _⟩ := j6_ HIN6.out
                     injection e0 with e1 _ e3
                     subst e1 e3
                     have hq7 : ((w2_ s).length : Int) - 6 ≤ oc := by omega
                     have hq8 : (0 : Int) ≤ ((w2_ s).length : Int) - 6 := by omega
                     clear HE
                     go_wp2_with fail
                     go_region
                     go_wp2_with fail
                     have HI12 : x8_ (.slice oa ((w2_ s).length - 6) oc) (k4_ s) w6.drew := za1_ (zdH_ HIN6.out om_ om_) (x9_ (y1_ _ _))
                     exact bodyPost_ret (v := .tuple #[.string (bs (T.take a)), .slice oa ((w2_ s).length - 6) oc, .int .i64 0]) (by simp [results, Tryz.results55, go_sem]) rfl ⟨zjR_ HE0.out HDH.out HI12, y0_ (x9_ HL6.out)⟩
                   · have HE1 : Hid (v9_ s = 61) := Lib.hid (by rw [HE.out, if_neg h1])
                     have hP2 : (((P : Nat) : Int) != 1) = true := by simp; omega
                     have hP3 : (((P : Nat) : Int) == 1) = false := by simp; omega
                     clear h1 HE
                     go_wp2_with fail
                     exact bodyPost_ret (v := .tuple #[.string (bs []), .slice none 0 0, .int .i64 61]) (by simp [results, Tryz.results55, go_sem]) rfl ⟨zbE_ HE1.out de_, y0_ HL6.out⟩
      · have HN2 : Hid (∀ j, a ≤ j → j < T.length → T.getD j 0 ≠ 49) := Lib.hid (fun j h1 h2 => by
         by_cases e : j = a
         · subst e; exact h49
         · exact HN.out j om_ h2)
        have hne : ((((T.getD a 0).toNat : Nat) : Int) != 49) = true := by
         simp only [bne_iff_ne, ne_eq]
         intro h
         exact h49 (UInt8.toNat_inj.1 (by show (T.getD a 0).toNat = 49; omega))
        clear HN h49
        generalize (T.getD a 0).toNat = x at *
        go_wp2_with fail
        exact ⟨⟨a, by omega, by go_num, HN2, by first | exact Lib.hid rfl | exact Lib.hid trivial⟩, by first | (simp [intOf]; done) | (simp [intOf]; omega)⟩
end Go.Proofs.YtembdkodajichaaGreatDoor
