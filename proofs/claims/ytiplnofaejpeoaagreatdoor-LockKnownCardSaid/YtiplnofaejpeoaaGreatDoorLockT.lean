/- Locks, plain: the program reads as the document does. -/
import Derived.Test.YtiplnofaejpeoaaGreatDoorLockU
import Derived.Test.YtiplnofaejpeoaaGreatDoorMTerm
import Derived.Test.YtiplnofaejpeoaaGreatDoorShelfL
set_option maxRecDepth 100000
set_option maxHeartbeats 8000000
set_option linter.unusedSimpArgs false
set_option linter.unusedVariables false
namespace Go.Proofs.YtiplnofaejpeoaaGreatDoor
open Go.RowKit
theorem ze8_ (e : UInt8) : ∀ r : List UInt8, Lib.indexByte r e = if e ∈ r then ((r.takeWhile (· != e)).length : Int) else -1
 | [] => by simp [Lib.indexByte]
 | b :: r => by
   rw [Lib.indexByte]
   by_cases hb : b = e
   · subst hb; simp
   · have h1 : (b != e) = true := by simpa using hb
     have h2 : (b == e) = false := by simpa using hb
     rw [h2, ze8_ e r, List.takeWhile_cons, h1]
     by_cases hm : e ∈ r
     · rw [if_pos hm, if_pos (List.mem_cons_of_mem _ hm)]
       have : (((r.takeWhile (· != e)).length : Int) == -1) = false := sx_
       simp [this]
     · have : ¬ e ∈ b :: r := by simp [hm, Ne.symm hb]
       simp [hm, this]
theorem zdx_ {e : UInt8} {s : List UInt8} (h : e ∈ s) : (s.takeWhile (· != e)).length < s.length := by
 have := congrArg List.length (ze0_ e s h)
 simp at this
 omega
theorem zd6_ {e : UInt8} {s : List UInt8} : s.take (s.takeWhile (· != e)).length = s.takeWhile (· != e) := by
 have h : s.takeWhile (· != e) <+: s := List.takeWhile_prefix _
 exact (List.prefix_iff_eq_take.1 h).symm
def cutV (e : UInt8) (s : List UInt8) : Value := if e ∈ s then .tuple #[.string (bs (s.takeWhile (· != e))), .string (bs (s.drop ((s.takeWhile (· != e)).length + 1))), .bool true] else .tuple #[.string (bs s), .string (bs []), .bool false]
theorem zkp_ (e : UInt8) (s : List UInt8) (hs : s.length ≤ 9000000000000000000) (w : World) :
  Calls Tryz.prog 89 #[.string (bs s), .string (bs [e])] w fun en w' => en = .returned (cutV e s) ∧ Below w.heap.size w w' := by
 have hi := ze8_ e s
 by_cases he : e ∈ s
 · have H : Hid (cutV e s = .tuple #[.string (bs (s.take (s.takeWhile (· != e)).length)), .string (bs (s.drop ((s.takeWhile (· != e)).length + 1))), .bool true]) := by
    show cutV e s = _; unfold cutV; rw [if_pos he, zd6_]
   have hlt := zdx_ he
   rw [if_pos he] at hi
   generalize (s.takeWhile (· != e)).length = k at *
   have i1 : (0 : Int) ≤ k := by omega
   have i2 : (k : Int) ≤ s.length := by omega
   have i3 : (k : Int) + 1 ≤ s.length := by omega
   have i4 : (0 : Int) ≤ (k : Int) + 1 := by omega
   have i5 : ((k : Int) + 1).toNat = k + 1 := by omega
   have HI := Lib.hid hi
   clear hi he
   go_enter Tryz.func89, Tryz.ntmps89
   go_wp2_with fail
   refine (Tryz.stringslite_Index_one (bs s) e _).mono ?_
   rintro en w1 ⟨rfl, rfl⟩
   rw [zaq_, HI.out]
   go_wp2
   go_quiet (fail)
   go_wp2
   go_ret3
   exact ⟨by rw [H.out]; first | rfl | (simp; done) | (simp; rw [List.take_of_length_le si_]), bl_⟩
 · have H : Hid (cutV e s = .tuple #[.string (bs s), .string (bs []), .bool false]) := by show cutV e s = _; unfold cutV; rw [if_neg he]
   rw [if_neg he] at hi
   have HI := Lib.hid hi
   clear hi he
   go_enter Tryz.func89, Tryz.ntmps89
   go_wp2_with fail
   refine (Tryz.stringslite_Index_one (bs s) e _).mono ?_
   rintro en w1 ⟨rfl, rfl⟩
   rw [zaq_, HI.out]
   go_wp2
   go_ret3
   exact ⟨by rw [H.out]; rfl, bl_⟩
theorem zkq_ (e : UInt8) (s : List UInt8) (hs : s.length ≤ 9000000000000000000) (w : World) :
  Calls Tryz.prog 66 #[.string (bs s), .string (bs [e])] w fun en w' => en = .returned (cutV e s) ∧ Below w.heap.size w w' := by
 have hc := zkp_ e s hs
 unfold cutV at hc ⊢
 by_cases he : e ∈ s
 · rw [if_pos he] at hc ⊢
   go_enter Tryz.func66, Tryz.ntmps66
   go_wp2_with fail
   refine (hc _).mono ?_
   rintro en w1 ⟨rfl, hb1⟩
   go_wp2_with fail
   go_ret3
   exact ⟨rfl, hb1⟩
 · rw [if_neg he] at hc ⊢
   go_enter Tryz.func66, Tryz.ntmps66
   go_wp2_with fail
   refine (hc _).mono ?_
   rintro en w1 ⟨rfl, hb1⟩
   go_wp2_with fail
   go_ret3
   exact ⟨rfl, hb1⟩
def zkr_ (p : List UInt8) (w : World) (e : Ending) (w' : World) : Prop := Below w.heap.size w w' ∧ ∃ (v : Int) (er : Value), e = .returned (.tuple #[.int .i64 v, er]) ∧ ((Lib.atoiAll p = .ok v ∧ er = .nilIface) ∨ ((∀ u, Lib.atoiAll p ≠ .ok u) ∧ ∃ N, er = .iface 128 (.pointer (some ⟨N, 0, none⟩))))
theorem zdy_ (p : List UInt8) (hp : p.length ≤ 281474976710656) (w : World) (hG : GErr w) : Calls Tryz.prog 65 #[.string (bs p)] w (zkr_ p w) := by
 obtain ⟨⟨t1, p1, h1⟩, ⟨t2, p2, h2⟩⟩ := hG
 have hs : (bs p).size ≤ 281474976710656 := by rw [zaJ_]; exact hp
 cases h : Lib.atoiAll p
 case ok v =>
  refine (Tryz.strconv_Atoi_ok (bs p) om_ v (by rw [zaq_]; exact h) w).mono fun e w' ⟨he, hw⟩ => ⟨?_, v, .nilIface, he, .inl ⟨h, rfl⟩⟩
  rcases hw with rfl | ⟨t, rfl⟩
  · exact Below.refl _ _
  · exact zgj_ w t
 case range =>
  exact (Tryz.strconv_Atoi_range_var (bs p) hs (by rw [zaq_]; exact h) t2 p2 w h2).mono fun e w' ⟨N, he, _, _, hb⟩ => ⟨hb, _, _, he, .inr ⟨fun u hu => (by rw [h] at hu; cases hu), N, rfl⟩⟩
 exact (Any.strconv_Atoi_syntax_var Tryz.laysC172 (bs p) hs (by rw [zaq_]; exact h) t1 p1 w h1).mono fun e w' ⟨N, he, _, _, hb⟩ => ⟨hb, _, _, he, .inr ⟨fun u hu => (by rw [h] at hu; cases hu), N, rfl⟩⟩
theorem zg2_ {p : List UInt8} (hne : p ≠ []) (h : p.all v3_ = true) (hl : p.length ≤ 10) : Lib.atoiAll p = .ok (j6_ p : Int) := by
 have hb : ∀ l : List UInt8, l.all v3_ = true → j6_ l < 10 ^ l.length := by
  intro l
  induction hk : l.length generalizing l with
  | zero => intro _; rw [List.eq_nil_of_length_eq_zero hk]; simp [j6_]
  | succ k ih =>
    intro ha
    have hne : l ≠ [] := fun h => by rw [h] at hk; simp at hk
    obtain ⟨l', c, rfl⟩ : ∃ l' c, l = l' ++ [c] := ⟨l.dropLast, l.getLast hne, (List.dropLast_concat_getLast hne).symm⟩
    rw [List.all_append, Bool.and_eq_true] at ha
    have hc : 48 ≤ c.toNat ∧ c.toNat ≤ 57 := by simpa [v3_] using ha.2
    have := ih l' (by simpa using hk) ha.1
    rw [zdv_, Nat.pow_succ]
    omega
 have h1 := hb p h
 have h2 : 10 ^ p.length ≤ 10 ^ 10 := Nat.pow_le_pow_right om_ hl
 have h10 : (10 : Nat) ^ 10 = 10000000000 := by decide
 have hv : j6_ p ≤ 9223372036854775807 := by omega
 have hu : Lib.parseUint10 0 p = .ok (j6_ p) := ze2_ p 0 h hv
 cases p with
 | nil => exact absurd rfl hne
 | cons a p =>
   rw [List.all_cons, Bool.and_eq_true] at h
   have hd : 48 ≤ a.toNat ∧ a.toNat ≤ 57 := by simpa [v3_] using h.1
   unfold Lib.atoiAll
   simp only
   rw [if_neg om_]
   unfold Lib.parseMag
   rw [if_neg si_, hu]
   simp only
   rw [if_neg om_, if_neg om_, if_neg om_]
theorem zg3_ (l : List UInt8) : ∀ (f pos : Nat), l.length ≤ pos + f → decide (0 ≤ Lib.idxFuncFrom noDg true (bs l) f pos) = (l.drop pos).any (fun c => !v3_ c)
 | 0, pos, h => by
   rw [List.drop_of_length_le om_]
   simp [Lib.idxFuncFrom]
 | f + 1, pos, h => by
   rw [Lib.idxFuncFrom]
   by_cases hp : pos < (bs l).size
   · rw [if_pos hp]
     rw [zaJ_] at hp
     obtain ⟨d1, d2⟩ := zko_ l pos hp
     rw [List.drop_eq_getElem_cons hp, List.any_cons, d1]
     cases hd : v3_ l[pos] with
     | true =>
       simp only [Bool.not_true, Bool.false_eq_true, if_false, Bool.false_or]
       rw [d2 hd]
       exact zg3_ l f (pos + 1) om_
     | false => simp
   · rw [if_neg hp]
     rw [zaJ_] at hp
     rw [List.drop_of_length_le om_]
     simp
theorem zks_ (l : List UInt8) : decide (0 ≤ Lib.idxFunc noDg true (bs l)) = !(l.all v3_) := by
 unfold Lib.idxFunc
 rw [zg3_ l _ 0 (by rw [zaJ_]; omega), List.drop_zero, List.all_eq_not_any_not]
 simp
theorem zkt_ (r : Nat) (w : World) : Calls Tryz.prog 68 #[.int .i32 r] w fun e w' => e = .returned (.bool (noDg r)) ∧ w = w' := by
 by_cases h1 : r < 48
 · have H : Hid (noDg r = true) := by show noDg r = true; simp [noDg, h1]
   have b1 : decide ((r : Int) < 48) = true := by simp; omega
   clear h1
   go_enter Tryz.func68, Tryz.ntmps68
   go_wp2
   go_ret
   exact ⟨by first | (rw [H.out]; done) | (rw [H.out]; rfl), rfl⟩
 · have b1 : decide ((r : Int) < 48) = false := by simp; omega
   by_cases h2 : 57 < r
   · have H : Hid (noDg r = true) := by show noDg r = true; simp [noDg, h2]
     have b2 : decide (57 < (r : Int)) = true := by simp; omega
     clear h1 h2
     go_enter Tryz.func68, Tryz.ntmps68
     go_wp2
     go_ret
     exact ⟨by first | (rw [H.out]; done) | (rw [H.out]; rfl), rfl⟩
   · have H : Hid (noDg r = false) := by show noDg r = false; simp [noDg, h1, h2]
     have b2 : decide (57 < (r : Int)) = false := by simp; omega
     clear h1 h2
     go_enter Tryz.func68, Tryz.ntmps68
     go_wp2
     go_ret
     exact ⟨by first | (rw [H.out]; done) | (rw [H.out]; rfl), rfl⟩
theorem zd7_ (l : List UInt8) (w : World) :
  Calls Tryz.prog 67 #[.string (bs l), .func (.func 68) #[] #[]] w fun e w' => e = .returned (.bool (!(l.all v3_))) ∧ Below w.heap.size w w' := by
 rw [← zks_]
 exact Tryz.strings_ContainsFunc 68 #[] (fun _ _ => by kernel_rfl) noDg (bs l) w (fun W x _ => (zkt_ x W).mono fun e w' ⟨he, hw⟩ => ⟨he, 0, by rw [← hw]; rfl⟩)
def numV (e : UInt8) (s : List UInt8) : Value := match v7_ e s with | some (n, r) => .tuple #[.int .i64 n, .string (bs r), .bool true] | none => .tuple #[.int .i64 0, .string (bs []), .bool false]
theorem zb3_ {e : UInt8} {s : List UInt8} (h : v7_ e s = none) : numV e s = .tuple #[.int .i64 0, .string (bs []), .bool false] := by unfold numV; rw [h]
theorem zc2_ {e : UInt8} {s r : List UInt8} {n : Nat} (h : v7_ e s = some (n, r)) : numV e s = .tuple #[.int .i64 n, .string (bs r), .bool true] := by unfold numV; rw [h]
theorem zcA_ (e : UInt8) (s : List UInt8) (hs : s.length ≤ 200000000000000) (w : World) (hG : GOk w) :
  Calls Tryz.prog 52 #[.string (bs s), .string (bs [e])] w fun en w' => en = .returned (numV e s) ∧ Below w.heap.size w w' := by
 have HG := Lib.hid hG
 clear hG
 have hcut := zkq_ e s om_
 unfold cutV at hcut
 by_cases he : e ∈ s
 · rw [if_pos he] at hcut
   have hP : v7_ e s = if zaU_ (s.takeWhile (· != e)) then some (j6_ (s.takeWhile (· != e)), s.drop ((s.takeWhile (· != e)).length + 1)) else none := by unfold v7_; rw [if_pos he]
   have hdl := zdx_ he
   generalize s.drop ((s.takeWhile (· != e)).length + 1) = rs at *
   generalize s.takeWhile (· != e) = ds at *
   have HC := Lib.hid hcut
   clear hcut he
   match ds, hP, HC, hdl with
   | [], hP, HC, _ =>
     have H : Hid (numV e s = .tuple #[.int .i64 0, .string (bs []), .bool false]) := zb3_ (by rw [hP]; rfl)
     clear hP
     go_enter Tryz.func52, Tryz.ntmps52
     go_wp2_with fail
     refine (HC.out _).mono ?_
     rintro en w1 ⟨rfl, hb1⟩
     go_wp2_with fail
     go_ret3
     exact ⟨by rw [H.out]; rfl, hb1⟩
   | c0 :: dr, hP, HC, hdl =>
     have hlen : (c0 :: dr).length = dr.length + 1 := rfl
     have a0 : (((dr.length : Int) + 1) == 0) = false := by simp; omega
     by_cases h10 : 10 < dr.length + 1
     · have b1 : decide (10 < (dr.length : Int) + 1) = true := by simp; omega
       have H : Hid (numV e s = .tuple #[.int .i64 0, .string (bs []), .bool false]) := zb3_ (by rw [hP, if_neg (by simp [zaU_]; omega)])
       clear hP
       go_enter Tryz.func52, Tryz.ntmps52
       go_wp2_with fail
       refine (HC.out _).mono ?_
       rintro en w1 ⟨rfl, hb1⟩
       go_wp2_with fail
       go_ret3
       exact ⟨by rw [H.out]; rfl, bl_⟩
     · have b1 : decide (10 < (dr.length : Int) + 1) = false := by simp; omega
       by_cases h1 : 1 < dr.length + 1
       · have b2 : decide (1 < (dr.length : Int) + 1) = true := by simp; omega
         by_cases h48 : c0 = 48
         · subst h48
           have hne : dr ≠ [] := fun h => by subst h; simp at h1
           have H : Hid (numV e s = .tuple #[.int .i64 0, .string (bs []), .bool false]) := zb3_ (by rw [hP, if_neg (by simp [zaU_, head, hne])])
           clear hne
           clear hP
           go_enter Tryz.func52, Tryz.ntmps52
           go_wp2_with fail
           refine (HC.out _).mono ?_
           rintro en w1 ⟨rfl, hb1⟩
           go_wp2_with fail
           go_ret3
           exact ⟨by rw [H.out]; rfl, bl_⟩
         · have b3 : (((c0.toNat : Nat) : Int) == 48) = false := by
            have : c0.toNat ≠ 48 := fun h => h48 (UInt8.toNat_inj.1 h)
            simp; omega
           cases hall : (c0 :: dr).all v3_ with
           | false =>
             have HA : Hid ((!((c0 :: dr).all v3_)) = true) := by show (!_) = true; rw [hall]; rfl
             have H : Hid (numV e s = .tuple #[.int .i64 0, .string (bs []), .bool false]) := zb3_ (by rw [hP, if_neg (by simp only [zaU_, hall]; simp)])
             clear hP hall
             go_enter Tryz.func52, Tryz.ntmps52
             go_wp2_with fail
             refine (HC.out _).mono ?_
             rintro en w1 ⟨rfl, hb1⟩
             go_wp2_with fail
             refine (zd7_ _ _).mono ?_
             rintro en w2 ⟨rfl, hb2⟩
             rw [HA.out]
             go_wp2_with fail
             go_ret3
             exact ⟨by rw [H.out]; rfl, bl_⟩
           | true =>
             have HA : Hid ((!((c0 :: dr).all v3_)) = false) := by show (!_) = false; rw [hall]; rfl
             have HV := Lib.hid (zg2_ si_ hall sx_)
             have H : Hid (numV e s = .tuple #[.int .i64 (j6_ (c0 :: dr) : Nat), .string (bs rs), .bool true]) := zc2_ (by rw [hP, if_pos (by simp only [zaU_, hall]; simp [head, h48]; omega)])
             clear hP hall
             go_enter Tryz.func52, Tryz.ntmps52
             go_wp2_with fail
             refine (HC.out _).mono ?_
             rintro en w1 ⟨rfl, hb1⟩
             go_wp2_with fail
             refine (zd7_ _ _).mono ?_
             rintro en w2 ⟨rfl, hb2⟩
             rw [HA.out]
             go_wp2_with fail
             refine (zdy_ _ sx_ _ (y6_ (y6_ HG.out hb1) hb2).err).mono ?_
             rintro en w3 ⟨hb3, v, er, rfl, hv⟩
             obtain rfl : v = (j6_ (c0 :: dr) : Int) := by
              rcases hv with ⟨h1, _⟩ | ⟨h1, _⟩
              · rw [HV.out] at h1; cases h1; rfl
              · exact absurd HV.out (h1 _)
             clear hv
             go_wp2_with fail
             go_ret3
             exact ⟨by rw [H.out]; rfl, bl_⟩
       · have b2 : decide (1 < (dr.length : Int) + 1) = false := by simp; omega
         obtain rfl : dr = [] := List.eq_nil_of_length_eq_zero om_
         cases hall : [c0].all v3_ with
         | false =>
           have HA : Hid ((!([c0].all v3_)) = true) := by show (!_) = true; rw [hall]; rfl
           have H : Hid (numV e s = .tuple #[.int .i64 0, .string (bs []), .bool false]) := zb3_ (by rw [hP, if_neg (by simp only [zaU_, hall]; simp)])
           clear hP hall
           go_enter Tryz.func52, Tryz.ntmps52
           go_wp2_with fail
           refine (HC.out _).mono ?_
           rintro en w1 ⟨rfl, hb1⟩
           go_wp2_with fail
           refine (zd7_ _ _).mono ?_
           rintro en w2 ⟨rfl, hb2⟩
           rw [HA.out]
           go_wp2_with fail
           go_ret3
           exact ⟨by rw [H.out]; rfl, bl_⟩
         | true =>
           have HA : Hid ((!([c0].all v3_)) = false) := by show (!_) = false; rw [hall]; rfl
           have HV := Lib.hid (zg2_ si_ hall sx_)
           have H : Hid (numV e s = .tuple #[.int .i64 (j6_ [c0] : Nat), .string (bs rs), .bool true]) := zc2_ (by rw [hP, if_pos (by simp only [zaU_, hall]; simp [head])])
           clear hP hall
           go_enter Tryz.func52, Tryz.ntmps52
           go_wp2_with fail
           refine (HC.out _).mono ?_
           rintro en w1 ⟨rfl, hb1⟩
           go_wp2_with fail
           refine (zd7_ _ _).mono ?_
           rintro en w2 ⟨rfl, hb2⟩
           rw [HA.out]
           go_wp2_with fail
           refine (zdy_ _ sx_ _ (y6_ (y6_ HG.out hb1) hb2).err).mono ?_
           rintro en w3 ⟨hb3, v, er, rfl, hv⟩
           obtain rfl : v = (j6_ [c0] : Int) := by
            rcases hv with ⟨h1, _⟩ | ⟨h1, _⟩
            · rw [HV.out] at h1; cases h1; rfl
            · exact absurd HV.out (h1 _)
           clear hv
           go_wp2_with fail
           go_ret3
           exact ⟨by rw [H.out]; rfl, bl_⟩
 · rw [if_neg he] at hcut
   have H : Hid (numV e s = .tuple #[.int .i64 0, .string (bs []), .bool false]) := zb3_ (by unfold v7_; rw [if_neg he])
   have HC := Lib.hid hcut
   clear hcut he
   go_enter Tryz.func52, Tryz.ntmps52
   go_wp2_with fail
   refine (HC.out _).mono ?_
   rintro en w1 ⟨rfl, hb1⟩
   go_wp2_with fail
   go_ret3
   exact ⟨by rw [H.out]; rfl, hb1⟩
def zau_ (s : List UInt8) : Value := match v4_ s with | some (t, r) => .tuple #[.string (bs t), .string (bs r), .bool true] | none => .tuple #[.string (bs []), .string (bs []), .bool false]
theorem zku_ (m : Nat) (h : 0 < m) : scan m [] = none := by
 obtain ⟨k, rfl⟩ : ∃ k, m = k + 1 := ⟨m - 1, by omega⟩
 rfl
theorem zkv_ {m : Nat} {c : UInt8} {r : List UInt8} (h : v9_ m c r = none) : scan (m + 1) (c :: r) = none := by
 unfold scan
 rw [List.length_cons, zbu_, h]
theorem zkw_ {m : Nat} {c : UInt8} {r : List UInt8} {k m' : Nat} (h : v9_ m c r = some (k, m')) (hk : r.length + 1 < k) : scan (m + 1) (c :: r) = none := by
 unfold scan
 rw [List.length_cons, zbu_, h]
 simp only
 rw [if_pos hk]
def zav_ (s : List UInt8) (need i : Nat) : Prop := (if i ≤ s.length then (scan need (s.drop i)).map (· + i) else none) = scan 1 s
theorem zc3_ {s : List UInt8} {m i k m' : Nat} (h : zav_ s (m + 1) i) (hi : i < s.length) (hs : v9_ m s[i] (s.drop (i + 1)) = some (k, m')) : zav_ s m' (i + k) := by
 unfold zav_ at h ⊢
 rw [if_pos om_, List.drop_eq_getElem_cons hi] at h
 have hl : (s.drop (i + 1)).length + 1 = s.length - i := by simp; omega
 by_cases hk : i + k ≤ s.length
 · rw [if_pos hk, ← h, zd4_ hs om_]
   have e : (s[i] :: s.drop (i + 1)).drop k = s.drop (i + k) := by
    rw [← List.drop_eq_getElem_cons hi, List.drop_drop]
   rw [e, Option.map_map]
   congr 1
   funext x
   simp; omega
 · rw [if_neg hk, ← h, zkw_ hs om_]
   rfl
theorem zbJ_ {s : List UInt8} {m i : Nat} (h : zav_ s (m + 1) i) (hi : i < s.length) (hs : v9_ m s[i] (s.drop (i + 1)) = none) : zau_ s = .tuple #[.string (bs []), .string (bs []), .bool false] := by
 unfold zav_ at h
 rw [if_pos om_, List.drop_eq_getElem_cons hi, zkv_ hs] at h
 unfold zau_ v4_
 rw [← h]
 rfl
theorem zkx_ {s : List UInt8} {i : Nat} (h : zav_ s 0 i) (hi : i ≤ s.length) : zau_ s = .tuple #[.string (bs (s.take i)), .string (bs (s.drop i)), .bool true] := by
 unfold zav_ at h
 rw [if_pos hi, zgQ_] at h
 unfold zau_ v4_
 rw [← h]
 simp
theorem zky_ {s : List UInt8} {m i : Nat} (h : zav_ s m i) (hi : s.length < i) : zau_ s = .tuple #[.string (bs []), .string (bs []), .bool false] := by
 unfold zav_ at h
 rw [if_neg om_] at h
 unfold zau_ v4_
 rw [← h]
 rfl
theorem zkz_ {s : List UInt8} {m i : Nat} (h : zav_ s (m + 1) i) (hi : s.length ≤ i) : zau_ s = .tuple #[.string (bs []), .string (bs []), .bool false] := by
 unfold zav_ at h
 unfold zau_ v4_
 rw [← h]
 by_cases hl : i ≤ s.length
 · rw [if_pos hl, List.drop_of_length_le om_, zku_ _ om_]
   rfl
 · rw [if_neg hl]
   rfl
theorem zc4_ {c e : UInt8} {r : List UInt8} (h : c ≠ e) : Lib.indexByte (c :: r) e = if e ∈ r then (((r.takeWhile (· != e)).length + 1 : Nat) : Int) else -1 := by
 rw [Lib.indexByte, ze8_ e r]
 have h2 : (c == e) = false := by simpa using h
 rw [h2]
 by_cases hm : e ∈ r
 · rw [if_pos hm, if_pos hm]
   have : (((r.takeWhile (· != e)).length : Int) == -1) = false := sx_
   simp [this]
 · rw [if_neg hm, if_neg hm]
   simp
theorem zkA_ {m : Nat} {c : UInt8} {r : List UInt8} (hc : c = 110) (he : ¬ (59 : UInt8) ∈ r) : v9_ m c r = none := by
 subst hc; unfold v9_; simp [he]
theorem zkB_ {m : Nat} {c : UInt8} {r : List UInt8} (hc : c = 110) (he : (59 : UInt8) ∈ r) (hl : (r.takeWhile (· != 59)).length < 1 ∨ 19 < (r.takeWhile (· != 59)).length) : v9_ m c r = none := by
 subst hc; unfold v9_
 rw [if_pos de_]
 simp only [show ((if (110 : UInt8) = 110 then (59 : UInt8) else 58)) = 59 from rfl, if_true]
 rw [if_pos he, if_pos hl]
theorem zkC_ {m : Nat} {c : UInt8} {r : List UInt8} (hc : c = 110) (he : (59 : UInt8) ∈ r) (hl : 1 ≤ (r.takeWhile (· != 59)).length ∧ (r.takeWhile (· != 59)).length ≤ 19) : v9_ m c r = some ((r.takeWhile (· != 59)).length + 2, m) := by
 subst hc; unfold v9_
 rw [if_pos de_]
 simp only [show ((if (110 : UInt8) = 110 then (59 : UInt8) else 58)) = 59 from rfl, if_true]
 rw [if_pos he, if_neg om_]
 try simp
theorem zkD_ {m : Nat} {c : UInt8} {r : List UInt8} (hc : c = 116) (he : ¬ (58 : UInt8) ∈ r) : v9_ m c r = none := by
 subst hc; unfold v9_; simp [he]
theorem zkE_ {m : Nat} {c : UInt8} {r : List UInt8} (hc : c = 116) (he : (58 : UInt8) ∈ r) (hl : (r.takeWhile (· != 58)).length < 1 ∨ 19 < (r.takeWhile (· != 58)).length) : v9_ m c r = none := by
 subst hc; unfold v9_
 rw [if_pos de_]
 simp only [show ((if (116 : UInt8) = 110 then (59 : UInt8) else 58)) = 58 from rfl, if_true]
 rw [if_pos he, if_pos hl]
theorem zkF_ {m : Nat} {c : UInt8} {r : List UInt8} (hc : c = 116) (he : (58 : UInt8) ∈ r) (hl : 1 ≤ (r.takeWhile (· != 58)).length ∧ (r.takeWhile (· != 58)).length ≤ 19) (ha : ∀ u, Lib.atoiAll (r.takeWhile (· != 58)) ≠ .ok u) : v9_ m c r = none := by
 subst hc; unfold v9_
 rw [if_pos de_]
 simp only [show ((if (116 : UInt8) = 110 then (59 : UInt8) else 58)) = 58 from rfl, if_true]
 rw [if_pos he, if_neg om_, if_neg de_]
 all_goals (cases h : Lib.atoiAll (r.takeWhile (· != 58)) with | ok u => exact absurd h (ha u) | _ => rfl)
theorem zg4_ {m : Nat} {c : UInt8} {r : List UInt8} (hc : c = 116) (he : (58 : UInt8) ∈ r) (hl : 1 ≤ (r.takeWhile (· != 58)).length ∧ (r.takeWhile (· != 58)).length ≤ 19) {n : Int} (ha : Lib.atoiAll (r.takeWhile (· != 58)) = .ok n) (hn : n < 0 ∨ 4096 < n) : v9_ m c r = none := by
 subst hc; unfold v9_
 rw [if_pos de_]
 simp only [show ((if (116 : UInt8) = 110 then (59 : UInt8) else 58)) = 58 from rfl, if_true]
 rw [if_pos he, if_neg om_, if_neg de_, ha]
 simp only
 rw [if_pos hn]
theorem zkG_ {m : Nat} {c : UInt8} {r : List UInt8} (hc : c = 116) (he : (58 : UInt8) ∈ r) (hl : 1 ≤ (r.takeWhile (· != 58)).length ∧ (r.takeWhile (· != 58)).length ≤ 19) {n : Int} (ha : Lib.atoiAll (r.takeWhile (· != 58)) = .ok n) (hn : 0 ≤ n ∧ n ≤ 4096) : v9_ m c r = some ((r.takeWhile (· != 58)).length + 2 + n.toNat, m) := by
 subst hc; unfold v9_
 rw [if_pos de_]
 simp only [show ((if (116 : UInt8) = 110 then (59 : UInt8) else 58)) = 58 from rfl, if_true]
 rw [if_pos he, if_neg om_, if_neg de_, ha]
 simp only
 rw [if_neg om_]
 try simp
theorem zkH_ {m : Nat} {c : UInt8} {r : List UInt8} (hc : c = 84) (he : ¬ (58 : UInt8) ∈ r) : v9_ m c r = none := by
 subst hc; unfold v9_; simp [he]
theorem zkI_ {m : Nat} {c : UInt8} {r : List UInt8} (hc : c = 84) (he : (58 : UInt8) ∈ r) (hl : (r.takeWhile (· != 58)).length < 1 ∨ 19 < (r.takeWhile (· != 58)).length) : v9_ m c r = none := by
 subst hc; unfold v9_
 rw [if_pos de_]
 simp only [show ((if (84 : UInt8) = 110 then (59 : UInt8) else 58)) = 58 from rfl, if_true]
 rw [if_pos he, if_pos hl]
theorem zkJ_ {m : Nat} {c : UInt8} {r : List UInt8} (hc : c = 84) (he : (58 : UInt8) ∈ r) (hl : 1 ≤ (r.takeWhile (· != 58)).length ∧ (r.takeWhile (· != 58)).length ≤ 19) (ha : ∀ u, Lib.atoiAll (r.takeWhile (· != 58)) ≠ .ok u) : v9_ m c r = none := by
 subst hc; unfold v9_
 rw [if_pos de_]
 simp only [show ((if (84 : UInt8) = 110 then (59 : UInt8) else 58)) = 58 from rfl, if_true]
 rw [if_pos he, if_neg om_, if_neg de_]
 all_goals (cases h : Lib.atoiAll (r.takeWhile (· != 58)) with | ok u => exact absurd h (ha u) | _ => rfl)
theorem zg5_ {m : Nat} {c : UInt8} {r : List UInt8} (hc : c = 84) (he : (58 : UInt8) ∈ r) (hl : 1 ≤ (r.takeWhile (· != 58)).length ∧ (r.takeWhile (· != 58)).length ≤ 19) {n : Int} (ha : Lib.atoiAll (r.takeWhile (· != 58)) = .ok n) (hn : n < 0 ∨ 4096 < n) : v9_ m c r = none := by
 subst hc; unfold v9_
 rw [if_pos de_]
 simp only [show ((if (84 : UInt8) = 110 then (59 : UInt8) else 58)) = 58 from rfl, if_true]
 rw [if_pos he, if_neg om_, if_neg de_, ha]
 simp only
 rw [if_pos hn]
theorem zkK_ {m : Nat} {c : UInt8} {r : List UInt8} (hc : c = 84) (he : (58 : UInt8) ∈ r) (hl : 1 ≤ (r.takeWhile (· != 58)).length ∧ (r.takeWhile (· != 58)).length ≤ 19) {n : Int} (ha : Lib.atoiAll (r.takeWhile (· != 58)) = .ok n) (hn : 0 ≤ n ∧ n ≤ 4096) : v9_ m c r = some ((r.takeWhile (· != 58)).length + 2, m + n.toNat) := by
 subst hc; unfold v9_
 rw [if_pos de_]
 simp only [show ((if (84 : UInt8) = 110 then (59 : UInt8) else 58)) = 58 from rfl, if_true]
 rw [if_pos he, if_neg om_, if_neg de_, ha]
 simp only
 rw [if_neg om_]
 try simp
theorem zg6_ {m : Nat} {c : UInt8} {r : List UInt8} (hc : c = 80 ∨ c = 72) : v9_ m c r = some (1, m + 1) := by
 unfold v9_
 rw [if_neg (by rcases hc with rfl | rfl <;> decide), if_pos hc]
theorem zkL_ {m : Nat} {c : UInt8} {r : List UInt8} (h1 : ¬ (c = 110 ∨ c = 116 ∨ c = 84)) (h2 : ¬ (c = 80 ∨ c = 72)) : v9_ m c r = some (1, m + 2) := by
 unfold v9_
 rw [if_neg h1, if_neg h2]
theorem zd8_ (s : List UInt8) (hs : s.length ≤ 200000000000000) (w : World) (hG : GOk w) :
  Calls Tryz.prog 51 #[.string (bs s)] w fun en w' => en = .returned (zau_ s) ∧ Below w.heap.size w w' := by
 have HG := Lib.hid hG
 clear hG
 have hnil : ∀ (t : Nat) (N : Nat) (w : World), True := fun _ _ _ => trivial
 go_enter Tryz.func51, Tryz.ntmps51
 go_wp2
 go_loopw [5, 6, 7, 8, 9, 10, 11] (fun nv iv _ _ _ _ _ wr => ∃ (m i : Nat), nv = .int .i64 m ∧ iv = .int .i64 i ∧ m ≤ 4097 * (i + 1) ∧ i ≤ s.length + 4096 ∧ Hid (Below w.heap.size w wr) ∧ Hid (zav_ s m i)) (fun _ iv _ _ _ _ _ _ => s.length + 5000 - (intOf iv).toNat)
 case atStart => exact ⟨1, 0, rfl, rfl, by omega, by omega, (by show Below _ _ _; exact bl_), Lib.hid (by unfold zav_; rw [if_pos om_]; simp)⟩
 case round =>
  obtain ⟨m, i, rfl, rfl, hmb, hib, hbr, hsc⟩ := hrel
  have e0 : ((i : Int)).toNat = i := by omega
  by_cases hm : m = 0
  · subst hm
    by_cases hi : i ≤ s.length
    · have H := Lib.hid (zkx_ hsc.out hi)
      have i1 : (i : Int) ≤ s.length := by omega
      have i2 : (0 : Int) ≤ (i : Int) := by omega
      have b1 : decide ((s.length : Int) < i) = false := by simp; omega
      have ht : List.take (s.length - i) (List.drop i s) = List.drop i s := List.take_of_length_le si_
      clear hsc
      go_wp2
      go_quiet (fail)
      go_wp2
      go_ret3
      exact ⟨by rw [H.out]; first | rfl | (simp; done), by have := hbr.out; exact bl_⟩
    · have H := Lib.hid (zky_ hsc.out om_)
      have b1 : decide ((s.length : Int) < i) = true := by simp; omega
      clear hsc
      go_wp2
      go_ret3
      exact ⟨by rw [H.out]; rfl, by have := hbr.out; exact bl_⟩
  · have b0 : decide (0 < (m : Int)) = true := by simp; omega
    have hm1 : m - 1 + 1 = m := by omega
    have hsc' : Hid (zav_ s (m - 1 + 1) i) := by show zav_ _ _ _; rw [hm1]; exact hsc.out
    clear hsc
    by_cases hi : i < s.length
    · have i1 : (i : Int) < s.length := by omega
      have i2 : (0 : Int) ≤ (i : Int) := by omega
      have i3 : (i : Int) ≤ s.length := by omega
      have j1 : (m : Int) ≤ 900000000000000000 := by omega
      have ht : List.take (s.length - i) (List.drop i s) = List.drop i s := List.take_of_length_le si_
      by_cases h110 : s[i] = 110
      · have c110 : (((s[i].toNat : Nat) : Int) == 110) = true := by rw [h110]; rfl
        have c116 : (((s[i].toNat : Nat) : Int) == 116) = false := by rw [h110]; rfl
        have c84 : (((s[i].toNat : Nat) : Int) == 84) = false := by rw [h110]; rfl
        have cn : (((s[i].toNat : Nat) : Int) != 110) = false := by rw [h110]; rfl
        by_cases he : (59 : UInt8) ∈ s.drop (i + 1)
        · have hix : Lib.indexByte (s.drop i) 59 = ((((s.drop (i + 1)).takeWhile (· != 59)).length + 1 : Nat) : Int) := by
           rw [List.drop_eq_getElem_cons hi, zc4_ (by rw [h110]; decide), if_pos he]
          have htw := zd6_ (e := 59) (s := s.drop (i + 1))
          have hjl := zdx_ he
          rw [List.length_drop] at hjl
          obtain ⟨j, hj⟩ : ∃ j, ((s.drop (i + 1)).takeWhile (· != 59)).length = j := ⟨_, rfl⟩
          rw [hj] at hix hjl htw
          have HIX : Hid (Lib.indexByte (s.drop i) 59 = (j : Int) + 1) := by show _ = _; rw [hix]; simp
          have HTW := Lib.hid htw
          clear hix htw
          by_cases hlo : j < 1 ∨ 19 < j
          · have H := Lib.hid (zbJ_ hsc'.out hi (zkB_ h110 he (by rw [hj]; exact hlo)))
            clear hsc'
            have hj0 : j = 0 ∨ 19 < j := by omega
            clear hlo he hj HTW h110
            rcases hj0 with rfl | hj0
            · go_wp2_with fail
              refine (Tryz.strings_Index_one (bs (s.drop i)) 59 _).mono ?_
              rintro en w1 ⟨rfl, rfl⟩
              rw [zaq_, HIX.out]
              go_wp2_with fail
              go_ret3
              exact ⟨by rw [H.out]; rfl, by have := hbr.out; exact bl_⟩
            · have d1 : decide ((j : Int) + 1 < 2) = false := by simp; omega
              have d2 : decide (20 < (j : Int) + 1) = true := by simp; omega
              go_wp2_with fail
              refine (Tryz.strings_Index_one (bs (s.drop i)) 59 _).mono ?_
              rintro en w1 ⟨rfl, rfl⟩
              rw [zaq_, HIX.out]
              go_wp2_with fail
              go_ret3
              exact ⟨by rw [H.out]; rfl, by have := hbr.out; exact bl_⟩
          · have d1 : decide ((j : Int) + 1 < 2) = false := by simp; omega
            have d2 : decide (20 < (j : Int) + 1) = false := by simp; omega
            have e1 : ((i : Int) + 1).toNat = i + 1 := by omega
            have e2 : ((i : Int) + ((j : Int) + 1)).toNat = i + (j + 1) := by omega
            have e3 : i + (j + 1) - (i + 1) = j := by omega
            have k1 : (0 : Int) ≤ (i : Int) + 1 := by omega
            have k2 : (i : Int) + 1 ≤ (i : Int) + ((j : Int) + 1) := by omega
            have k3 : (i : Int) + ((j : Int) + 1) ≤ s.length := by omega
            have hl19 : ((s.drop (i + 1)).takeWhile (· != 59)).length ≤ 19 := by rw [hj]; omega
            have hlen2 : 1 ≤ ((s.drop (i + 1)).takeWhile (· != 59)).length ∧ ((s.drop (i + 1)).takeWhile (· != 59)).length ≤ 19 := by rw [hj]; omega
            have HN := Lib.hid (zc3_ hsc'.out hi (zkC_ h110 he hlen2))
            clear hsc'
            rw [hj] at HN
            clear he h110 hlen2
            go_wp2_with fail
            refine (Tryz.strings_Index_one (bs (s.drop i)) 59 _).mono ?_
            rintro en w1 ⟨rfl, rfl⟩
            rw [zaq_, HIX.out]
            go_wp2_with fail
            rw [HTW.out]
            refine (zdy_ _ om_ _ (y6_ HG.out (by have := hbr.out; exact bl_)).err).mono ?_
            rintro en w2 ⟨hb2, v, er, rfl, hv⟩
            clear hv
            go_wp2_with fail
            go_roundw
            case rel => exact ⟨m - 1, i + (j + 2), by first | rfl | (congr; omega), by first | rfl | (congr; omega), by omega, by omega, (by show Below _ _ _; have := hbr.out; exact bl_), by first | exact HN | (show zav_ _ _ _; have := HN.out; simpa [Nat.add_assoc] using this)⟩
            case measure => simp [intOf]; omega
        · have hix : Lib.indexByte (s.drop i) 59 = -1 := by
           rw [List.drop_eq_getElem_cons hi, zc4_ (by rw [h110]; decide), if_neg he]
          have HIX := Lib.hid hix
          have H := Lib.hid (zbJ_ hsc'.out hi (zkA_ h110 he))
          clear hsc'
          clear hix he h110
          go_wp2_with fail
          refine (Tryz.strings_Index_one (bs (s.drop i)) 59 _).mono ?_
          rintro en w1 ⟨rfl, rfl⟩
          rw [zaq_, HIX.out]
          go_wp2_with fail
          go_ret3
          exact ⟨by rw [H.out]; rfl, by have := hbr.out; exact bl_⟩
      have c110 : (((s[i].toNat : Nat) : Int) == 110) = false := by
       have : s[i].toNat ≠ 110 := fun h => h110 (UInt8.toNat_inj.1 h)
       simp; omega
      by_cases h116 : s[i] = 116
      · have c116 : (((s[i].toNat : Nat) : Int) == 116) = true := by rw [h116]; rfl
        have c84 : (((s[i].toNat : Nat) : Int) == 84) = false := by rw [h116]; rfl
        have cn : (((s[i].toNat : Nat) : Int) != 110) = true := by rw [h116]; rfl
        by_cases he : (58 : UInt8) ∈ s.drop (i + 1)
        · have hix : Lib.indexByte (s.drop i) 58 = ((((s.drop (i + 1)).takeWhile (· != 58)).length + 1 : Nat) : Int) := by
           rw [List.drop_eq_getElem_cons hi, zc4_ (by rw [h116]; decide), if_pos he]
          have htw := zd6_ (e := 58) (s := s.drop (i + 1))
          have hjl := zdx_ he
          rw [List.length_drop] at hjl
          obtain ⟨j, hj⟩ : ∃ j, ((s.drop (i + 1)).takeWhile (· != 58)).length = j := ⟨_, rfl⟩
          rw [hj] at hix hjl htw
          have HIX : Hid (Lib.indexByte (s.drop i) 58 = (j : Int) + 1) := by show _ = _; rw [hix]; simp
          have HTW := Lib.hid htw
          clear hix htw
          by_cases hlo : j < 1 ∨ 19 < j
          · have H := Lib.hid (zbJ_ hsc'.out hi (zkE_ h116 he (by rw [hj]; exact hlo)))
            clear hsc'
            have hj0 : j = 0 ∨ 19 < j := by omega
            clear hlo he hj HTW h116
            rcases hj0 with rfl | hj0
            · go_wp2_with fail
              refine (Tryz.strings_Index_one (bs (s.drop i)) 58 _).mono ?_
              rintro en w1 ⟨rfl, rfl⟩
              rw [zaq_, HIX.out]
              go_wp2_with fail
              go_ret3
              exact ⟨by rw [H.out]; rfl, by have := hbr.out; exact bl_⟩
            · have d1 : decide ((j : Int) + 1 < 2) = false := by simp; omega
              have d2 : decide (20 < (j : Int) + 1) = true := by simp; omega
              go_wp2_with fail
              refine (Tryz.strings_Index_one (bs (s.drop i)) 58 _).mono ?_
              rintro en w1 ⟨rfl, rfl⟩
              rw [zaq_, HIX.out]
              go_wp2_with fail
              go_ret3
              exact ⟨by rw [H.out]; rfl, by have := hbr.out; exact bl_⟩
          · have d1 : decide ((j : Int) + 1 < 2) = false := by simp; omega
            have d2 : decide (20 < (j : Int) + 1) = false := by simp; omega
            have e1 : ((i : Int) + 1).toNat = i + 1 := by omega
            have e2 : ((i : Int) + ((j : Int) + 1)).toNat = i + (j + 1) := by omega
            have e3 : i + (j + 1) - (i + 1) = j := by omega
            have k1 : (0 : Int) ≤ (i : Int) + 1 := by omega
            have k2 : (i : Int) + 1 ≤ (i : Int) + ((j : Int) + 1) := by omega
            have k3 : (i : Int) + ((j : Int) + 1) ≤ s.length := by omega
            have hl19 : ((s.drop (i + 1)).takeWhile (· != 58)).length ≤ 19 := by rw [hj]; omega
            have hlen2 : 1 ≤ ((s.drop (i + 1)).takeWhile (· != 58)).length ∧ ((s.drop (i + 1)).takeWhile (· != 58)).length ≤ 19 := by rw [hj]; omega
            have HH := Lib.hid (And.intro h116 (And.intro he hlen2))
            clear he hlen2 h116
            go_wp2_with fail
            refine (Tryz.strings_Index_one (bs (s.drop i)) 58 _).mono ?_
            rintro en w1 ⟨rfl, rfl⟩
            rw [zaq_, HIX.out]
            go_wp2_with fail
            rw [HTW.out]
            refine (zdy_ _ om_ _ (y6_ HG.out (by have := hbr.out; exact bl_)).err).mono ?_
            rintro en w2 ⟨hb2, v, er, rfl, hv⟩
            rcases hv with ⟨ha, rfl⟩ | ⟨ha, N, rfl⟩
            · by_cases hv0 : v < 0
              · have d3 : decide (v < 0) = true := by simpa using hv0
                have H := Lib.hid (zbJ_ hsc'.out hi (zg4_ HH.out.1 HH.out.2.1 HH.out.2.2 ha (.inl hv0)))
                clear hsc' ha
                go_wp2_with fail
                go_ret3
                exact ⟨by rw [H.out]; rfl, by have := hbr.out; exact bl_⟩
              · have d3 : decide (v < 0) = false := by simpa using hv0
                by_cases hv1 : 4096 < v
                · have d4 : decide (4096 < v) = true := by simpa using hv1
                  have H := Lib.hid (zbJ_ hsc'.out hi (zg4_ HH.out.1 HH.out.2.1 HH.out.2.2 ha (.inr hv1)))
                  clear hsc' ha
                  go_wp2_with fail
                  go_ret3
                  exact ⟨by rw [H.out]; rfl, by have := hbr.out; exact bl_⟩
                · have d4 : decide (4096 < v) = false := by simpa using hv1
                  have HN := Lib.hid (zc3_ hsc'.out hi (zkG_ HH.out.1 HH.out.2.1 HH.out.2.2 ha om_))
                  rw [hj] at HN
                  clear hsc' ha
                  obtain ⟨vn, rfl⟩ : ∃ vn : Nat, v = (vn : Int) := ⟨v.toNat, by omega⟩
                  rw [Int.toNat_natCast] at HN
                  go_wp2_with fail
                  go_roundw
                  case rel => exact ⟨m - 1, i + (j + 2 + vn), by first | rfl | (congr; omega), by first | rfl | (congr; omega), by omega, by omega, (by show Below _ _ _; have := hbr.out; exact bl_), by first | exact HN | (show zav_ _ _ _; have := HN.out; simpa [Nat.add_assoc] using this)⟩
                  case measure => simp [intOf]; omega
            · have H := Lib.hid (zbJ_ hsc'.out hi (zkF_ HH.out.1 HH.out.2.1 HH.out.2.2 ha))
              clear hsc' ha
              go_wp2_with fail
              go_ret3
              exact ⟨by rw [H.out]; rfl, by have := hbr.out; exact bl_⟩
        · have hix : Lib.indexByte (s.drop i) 58 = -1 := by
           rw [List.drop_eq_getElem_cons hi, zc4_ (by rw [h116]; decide), if_neg he]
          have HIX := Lib.hid hix
          have H := Lib.hid (zbJ_ hsc'.out hi (zkD_ h116 he))
          clear hsc'
          clear hix he h116
          go_wp2_with fail
          refine (Tryz.strings_Index_one (bs (s.drop i)) 58 _).mono ?_
          rintro en w1 ⟨rfl, rfl⟩
          rw [zaq_, HIX.out]
          go_wp2_with fail
          go_ret3
          exact ⟨by rw [H.out]; rfl, by have := hbr.out; exact bl_⟩
      have c116 : (((s[i].toNat : Nat) : Int) == 116) = false := by
       have : s[i].toNat ≠ 116 := fun h => h116 (UInt8.toNat_inj.1 h)
       simp; omega
      by_cases h84 : s[i] = 84
      · have c84 : (((s[i].toNat : Nat) : Int) == 84) = true := by rw [h84]; rfl
        have cn : (((s[i].toNat : Nat) : Int) != 110) = true := by rw [h84]; rfl
        by_cases he : (58 : UInt8) ∈ s.drop (i + 1)
        · have hix : Lib.indexByte (s.drop i) 58 = ((((s.drop (i + 1)).takeWhile (· != 58)).length + 1 : Nat) : Int) := by
           rw [List.drop_eq_getElem_cons hi, zc4_ (by rw [h84]; decide), if_pos he]
          have htw := zd6_ (e := 58) (s := s.drop (i + 1))
          have hjl := zdx_ he
          rw [List.length_drop] at hjl
          obtain ⟨j, hj⟩ : ∃ j, ((s.drop (i + 1)).takeWhile (· != 58)).length = j := ⟨_, rfl⟩
          rw [hj] at hix hjl htw
          have HIX : Hid (Lib.indexByte (s.drop i) 58 = (j : Int) + 1) := by show _ = _; rw [hix]; simp
          have HTW := Lib.hid htw
          clear hix htw
          by_cases hlo : j < 1 ∨ 19 < j
          · have H := Lib.hid (zbJ_ hsc'.out hi (zkI_ h84 he (by rw [hj]; exact hlo)))
            clear hsc'
            have hj0 : j = 0 ∨ 19 < j := by omega
            clear hlo he hj HTW h84
            rcases hj0 with rfl | hj0
            · go_wp2_with fail
              refine (Tryz.strings_Index_one (bs (s.drop i)) 58 _).mono ?_
              rintro en w1 ⟨rfl, rfl⟩
              rw [zaq_, HIX.out]
              go_wp2_with fail
              go_ret3
              exact ⟨by rw [H.out]; rfl, by have := hbr.out; exact bl_⟩
            · have d1 : decide ((j : Int) + 1 < 2) = false := by simp; omega
              have d2 : decide (20 < (j : Int) + 1) = true := by simp; omega
              go_wp2_with fail
              refine (Tryz.strings_Index_one (bs (s.drop i)) 58 _).mono ?_
              rintro en w1 ⟨rfl, rfl⟩
              rw [zaq_, HIX.out]
              go_wp2_with fail
              go_ret3
              exact ⟨by rw [H.out]; rfl, by have := hbr.out; exact bl_⟩
          · have d1 : decide ((j : Int) + 1 < 2) = false := by simp; omega
            have d2 : decide (20 < (j : Int) + 1) = false := by simp; omega
            have e1 : ((i : Int) + 1).toNat = i + 1 := by omega
            have e2 : ((i : Int) + ((j : Int) + 1)).toNat = i + (j + 1) := by omega
            have e3 : i + (j + 1) - (i + 1) = j := by omega
            have k1 : (0 : Int) ≤ (i : Int) + 1 := by omega
            have k2 : (i : Int) + 1 ≤ (i : Int) + ((j : Int) + 1) := by omega
            have k3 : (i : Int) + ((j : Int) + 1) ≤ s.length := by omega
            have hl19 : ((s.drop (i + 1)).takeWhile (· != 58)).length ≤ 19 := by rw [hj]; omega
            have hlen2 : 1 ≤ ((s.drop (i + 1)).takeWhile (· != 58)).length ∧ ((s.drop (i + 1)).takeWhile (· != 58)).length ≤ 19 := by rw [hj]; omega
            have HH := Lib.hid (And.intro h84 (And.intro he hlen2))
            clear he hlen2 h84
            go_wp2_with fail
            refine (Tryz.strings_Index_one (bs (s.drop i)) 58 _).mono ?_
            rintro en w1 ⟨rfl, rfl⟩
            rw [zaq_, HIX.out]
            go_wp2_with fail
            rw [HTW.out]
            refine (zdy_ _ om_ _ (y6_ HG.out (by have := hbr.out; exact bl_)).err).mono ?_
            rintro en w2 ⟨hb2, v, er, rfl, hv⟩
            rcases hv with ⟨ha, rfl⟩ | ⟨ha, N, rfl⟩
            · by_cases hv0 : v < 0
              · have d3 : decide (v < 0) = true := by simpa using hv0
                have H := Lib.hid (zbJ_ hsc'.out hi (zg5_ HH.out.1 HH.out.2.1 HH.out.2.2 ha (.inl hv0)))
                clear hsc' ha
                go_wp2_with fail
                go_ret3
                exact ⟨by rw [H.out]; rfl, by have := hbr.out; exact bl_⟩
              · have d3 : decide (v < 0) = false := by simpa using hv0
                by_cases hv1 : 4096 < v
                · have d4 : decide (4096 < v) = true := by simpa using hv1
                  have H := Lib.hid (zbJ_ hsc'.out hi (zg5_ HH.out.1 HH.out.2.1 HH.out.2.2 ha (.inr hv1)))
                  clear hsc' ha
                  go_wp2_with fail
                  go_ret3
                  exact ⟨by rw [H.out]; rfl, by have := hbr.out; exact bl_⟩
                · have d4 : decide (4096 < v) = false := by simpa using hv1
                  have HN := Lib.hid (zc3_ hsc'.out hi (zkK_ HH.out.1 HH.out.2.1 HH.out.2.2 ha om_))
                  rw [hj] at HN
                  clear hsc' ha
                  obtain ⟨vn, rfl⟩ : ∃ vn : Nat, v = (vn : Int) := ⟨v.toNat, by omega⟩
                  rw [Int.toNat_natCast] at HN
                  go_wp2_with fail
                  go_roundw
                  case rel => exact ⟨m - 1 + vn, i + (j + 2), by first | rfl | (congr; omega), by first | rfl | (congr; omega), by omega, by omega, (by show Below _ _ _; have := hbr.out; exact bl_), by first | exact HN | (show zav_ _ _ _; have := HN.out; simpa [Nat.add_assoc] using this)⟩
                  case measure => simp [intOf]; omega
            · have H := Lib.hid (zbJ_ hsc'.out hi (zkJ_ HH.out.1 HH.out.2.1 HH.out.2.2 ha))
              clear hsc' ha
              go_wp2_with fail
              go_ret3
              exact ⟨by rw [H.out]; rfl, by have := hbr.out; exact bl_⟩
        · have hix : Lib.indexByte (s.drop i) 58 = -1 := by
           rw [List.drop_eq_getElem_cons hi, zc4_ (by rw [h84]; decide), if_neg he]
          have HIX := Lib.hid hix
          have H := Lib.hid (zbJ_ hsc'.out hi (zkH_ h84 he))
          clear hsc'
          clear hix he h84
          go_wp2_with fail
          refine (Tryz.strings_Index_one (bs (s.drop i)) 58 _).mono ?_
          rintro en w1 ⟨rfl, rfl⟩
          rw [zaq_, HIX.out]
          go_wp2_with fail
          go_ret3
          exact ⟨by rw [H.out]; rfl, by have := hbr.out; exact bl_⟩
      have c84 : (((s[i].toNat : Nat) : Int) == 84) = false := by
       have : s[i].toNat ≠ 84 := fun h => h84 (UInt8.toNat_inj.1 h)
       simp; omega
      by_cases h80 : s[i] = 80
      · have c80 : (((s[i].toNat : Nat) : Int) == 80) = true := by rw [h80]; rfl
        have HN := Lib.hid (zc3_ hsc'.out hi (zg6_ (by simp [h80])))
        clear hsc'
        go_wp2
        go_roundw
        case rel => exact ⟨m - 1 + 1, i + 1, by first | rfl | (congr; omega), by first | rfl | (congr; omega), by omega, by omega, (by show Below _ _ _; have := hbr.out; exact bl_), by first | exact HN | (show zav_ _ _ _; have := HN.out; simpa [Nat.add_assoc] using this)⟩
        case measure => simp [intOf]; omega
      have c80 : (((s[i].toNat : Nat) : Int) == 80) = false := by
       have : s[i].toNat ≠ 80 := fun h => h80 (UInt8.toNat_inj.1 h)
       simp; omega
      by_cases h72 : s[i] = 72
      · have c72 : (((s[i].toNat : Nat) : Int) == 72) = true := by rw [h72]; rfl
        have HN := Lib.hid (zc3_ hsc'.out hi (zg6_ (by simp [h72])))
        clear hsc'
        go_wp2
        go_roundw
        case rel => exact ⟨m - 1 + 1, i + 1, by first | rfl | (congr; omega), by first | rfl | (congr; omega), by omega, by omega, (by show Below _ _ _; have := hbr.out; exact bl_), by first | exact HN | (show zav_ _ _ _; have := HN.out; simpa [Nat.add_assoc] using this)⟩
        case measure => simp [intOf]; omega
      have c72 : (((s[i].toNat : Nat) : Int) == 72) = false := by
       have : s[i].toNat ≠ 72 := fun h => h72 (UInt8.toNat_inj.1 h)
       simp; omega
      have HN := Lib.hid (zc3_ hsc'.out hi (zkL_ (by simp [h110, h116, h84]) (by simp [h80, h72])))
      clear hsc'
      go_wp2
      go_roundw
      case rel => exact ⟨m - 1 + 2, i + 1, by first | rfl | (congr; omega), by first | rfl | (congr; omega), by omega, by omega, (by show Below _ _ _; have := hbr.out; exact bl_), by first | exact HN | (show zav_ _ _ _; have := HN.out; simpa [Nat.add_assoc] using this)⟩
      case measure => simp [intOf]; omega
    · have H := Lib.hid (zkz_ hsc'.out om_)
      have b1 : decide ((i : Int) < s.length) = false := by simp; omega
      clear hsc'
      go_wp2
      go_ret3
      exact ⟨by rw [H.out]; rfl, by have := hbr.out; exact bl_⟩
def q6_ (n : Nat) : Option Nat := some (min n 9)
def q2_ (n : Nat) : Option Nat := if n ≤ 8 then some n else none
def za1_ (s : List UInt8) : Bool := match s with | [] => true | c :: _ => c == 115 || c == 112 || c == 97 || c == 111 || c == 38 || c == 124
def zag_ (s : List UInt8) : Nat → Nat → Option Nat
 | 0, _ => none
 | f + 1, i => if za1_ (s.drop i) && right (s.take i) then some i else zag_ s f (i + 1)
def v1_ (s : List UInt8) : Option (List UInt8 × List UInt8) := (zag_ s (min s.length 16384) 1).map fun i => (s.take i, s.drop i)
theorem zg7_ (s t r : List UInt8) (h : v1_ s = some (t, r)) : s = t ++ r := by
 unfold v1_ at h
 cases hq : zag_ s (min s.length 16384) 1 with
 | none => rw [hq] at h; cases h
 | some k =>
   rw [hq] at h
   simp only [Option.map_some, Option.some.injEq, Prod.mk.injEq] at h
   rw [← h.1, ← h.2, List.take_append_drop]
theorem zg8_ (s : List UInt8) (k : Nat) (hk : za1_ (s.drop k) = true ∧ right (s.take k) = true) (hu : ∀ i, i < k → right (s.take i) = false) : ∀ (f i : Nat), i ≤ k → k < i + f → zag_ s f i = some k
 | 0, i, h1, h2 => by omega
 | f + 1, i, h1, h2 => by
   rw [zag_]
   by_cases h : i = k
   · subst h; rw [if_pos (by rw [hk.1, hk.2]; rfl)]
   · rw [if_neg (by rw [hu i om_]; simp), zg8_ s k hk hu f (i + 1) om_ om_]
theorem zkM_ (t r : List UInt8) (he : za1_ r = true) (h : x8_ t = true ∨ w4_ t = true) : v1_ (t ++ r) = some (t, r) := by
 have hr : right t = true := by
  rcases h with h | h
  · unfold x8_ at h; rw [Bool.and_eq_true] at h; exact h.1
  · unfold w4_ at h; rw [Bool.and_eq_true] at h; exact h.1
 have hl := zaa_ hr
 have e1 : (t ++ r).take t.length = t := by simp
 have e2 : (t ++ r).drop t.length = r := by simp
 unfold v1_
 rw [zg8_ (t ++ r) t.length ⟨by rw [e2]; exact he, by rw [e1]; exact hr⟩ (fun i hi => by
  cases hq : right ((t ++ r).take i) with
  | false => rfl
  | true =>
    have := (ziU_ hq hr (b := (t ++ r).drop i) (v := r) (by rw [List.take_append_drop])).1
    have h2 := congrArg List.length this
    simp at h2
    omega) (min (t ++ r).length 16384) 1 hl.1 so_]
 simp [e1, e2]
theorem zkN_ (x : LT) (r : List UInt8) (_ : q1_ x = true) : za1_ (w5_ x ++ r) = true := by
 obtain ⟨k, t, n, kids⟩ := x
 rw [w5_]
 simp only [List.cons_append, za1_, zat_]
 repeat' split
 all_goals decide
theorem zb4_ (s : List UInt8) (x : LT) : k8_ v4_ q6_ s = some x ↔ (w7_ x = true ∧ w5_ x = s) := by
 constructor
 · exact zgN_ (fun n m h hm => by unfold q6_ at h; simp at h; omega) zd3_
 · rintro ⟨h, rfl⟩
   exact zgM_ (E := fun _ => True) (fun _ _ _ => trivial) trivial (fun n hn => by unfold q6_; congr 1; omega) (fun t r _ ht => zj8_ t r ht) x h
theorem zg9_ (s : List UInt8) (x : LT) : k8_ v1_ q2_ s = some x ↔ (w7_ x = true ∧ w5_ x = s) := by
 constructor
 · exact zgN_ (fun n m h hm => by unfold q2_ at h; split at h <;> simp at h; omega) zg7_
 · rintro ⟨h, rfl⟩
   exact zgM_ (E := fun r => za1_ r = true) zkN_ rfl (fun n hn => by unfold q2_; rw [if_pos hn]) zkM_ x h
theorem zha_ (s : List UInt8) : k8_ v1_ q2_ s = k8_ v4_ q6_ s := by
 cases h : k8_ v4_ q6_ s with
 | some x => exact (zg9_ s x).2 ((zb4_ s x).1 h)
 | none =>
   cases h2 : k8_ v1_ q2_ s with
   | none => rfl
   | some x => rw [(zb4_ s x).2 ((zg9_ s x).1 h2)] at h; cases h
theorem zkO_ {x y : LT} (hx : w7_ x = true) (hy : w7_ y = true) : (w5_ x = w5_ y) ↔ x = y := by
 constructor
 · intro h
   have h1 := (zb4_ (w5_ x) x).2 ⟨hx, rfl⟩
   have h2 := (zb4_ (w5_ x) y).2 ⟨hy, h.symm⟩
   rw [h1] at h2
   exact Option.some.inj h2
 · intro h; rw [h]
end Go.Proofs.YtiplnofaejpeoaaGreatDoor
