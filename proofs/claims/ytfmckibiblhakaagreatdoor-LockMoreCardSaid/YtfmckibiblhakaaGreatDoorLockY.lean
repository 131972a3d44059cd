/- The program's locks: a number, a term at a text's beginning. -/
import Derived.Test.YtfmckibiblhakaaGreatDoorLockU
import Derived.Test.YtfmckibiblhakaaGreatDoorLockR
import Derived.Test.YtfmckibiblhakaaGreatDoorMTerm
import Derived.Test.YtfmckibiblhakaaGreatDoorShelfL
set_option linter.unusedSimpArgs false
set_option linter.unusedVariables false
namespace Go.Proofs.YtfmckibiblhakaaGreatDoor
open Go.RowKit

theorem idx_tw (e : UInt8) : ∀ r : List UInt8, Lib.indexByte r e = if e ∈ r then ((r.takeWhile (· != e)).length : Int) else -1
  | [] => by simp [Lib.indexByte]
  | b :: r => by
    rw [Lib.indexByte]
    by_cases hb : b = e
    · subst hb; simp
    · have h1 : (b != e) = true := by simpa using hb
      have h2 : (b == e) = false := by simpa using hb
      rw [h2, idx_tw e r, List.takeWhile_cons, h1]
      by_cases hm : e ∈ r
      · rw [if_pos hm, if_pos (List.mem_cons_of_mem _ hm)]
        have : (((r.takeWhile (· != e)).length : Int) == -1) = false := by first | (simp; done) | (simp; omega)
        simp [this]
      · have : ¬ e ∈ b :: r := by simp [hm, Ne.symm hb]
        simp [hm, this]
theorem tw_lt {e : UInt8} {s : List UInt8} (h : e ∈ s) : (s.takeWhile (· != e)).length < s.length := by
  have := congrArg List.length (take_split e s h)
  simp at this
  omega
theorem tw_take {e : UInt8} {s : List UInt8} : s.take (s.takeWhile (· != e)).length = s.takeWhile (· != e) := by
  have h : s.takeWhile (· != e) <+: s := List.takeWhile_prefix _
  exact (List.prefix_iff_eq_take.1 h).symm

def cutV (e : UInt8) (s : List UInt8) : Value := if e ∈ s then .tuple #[.string (bs (s.takeWhile (· != e))), .string (bs (s.drop ((s.takeWhile (· != e)).length + 1))), .bool true] else .tuple #[.string (bs s), .string (bs []), .bool false]

set_option maxRecDepth 100000 in
set_option maxHeartbeats 2000000 in
theorem lkCutA (e : UInt8) (s : List UInt8) (hs : s.length ≤ 9000000000000000000) (w : World) :
    Calls Tryz.prog 146 #[.string (bs s), .string (bs [e])] w fun en w' => en = .returned (cutV e s) ∧ Below w.heap.size w w' := by
  have hi := idx_tw e s
  by_cases he : e ∈ s
  · have H : Hid (cutV e s = .tuple #[.string (bs (s.take (s.takeWhile (· != e)).length)), .string (bs (s.drop ((s.takeWhile (· != e)).length + 1))), .bool true]) := by
      show cutV e s = _; unfold cutV; rw [if_pos he, tw_take]
    have hlt := tw_lt he
    rw [if_pos he] at hi
    generalize (s.takeWhile (· != e)).length = k at *
    have i1 : (0 : Int) ≤ k := by omega
    have i2 : (k : Int) ≤ s.length := by omega
    have i3 : (k : Int) + 1 ≤ s.length := by omega
    have i4 : (0 : Int) ≤ (k : Int) + 1 := by omega
    have i5 : ((k : Int) + 1).toNat = k + 1 := by omega
    have HI := Lib.hid hi
    clear hi he
    go_enter Tryz.func146, Tryz.ntmps146
    go_wp2_with fail
    refine (Tryz.stringslite_Index_one (bs s) e _).mono ?_
    rintro en w1 ⟨rfl, rfl⟩
    rw [bs_data, HI.out]
    go_wp2
    go_quiet (fail)
    go_wp2
    go_ret3
    exact ⟨by rw [H.out]; first | rfl | (simp; done) | (simp; rw [List.take_of_length_le (by simp)]), by (repeat' (first | with_reducible exact Below.refl _ _ | with_reducible assumption | with_reducible refine below_alloc ?_ ?_ _ | with_reducible refine Below.setCell ?_ ?_ _ | with_reducible refine Below.drew ?_ | with_reducible refine below_drewN ?_ _ | with_reducible refine below_step (by assumption) ?_ ?_ | (with_reducible refine Below.trans ?_ (Below.mono (by assumption) ?_)) | exact Nat.le_refl _ | (simp; done) | (simp; omega) | omega))⟩
  · have H : Hid (cutV e s = .tuple #[.string (bs s), .string (bs []), .bool false]) := by show cutV e s = _; unfold cutV; rw [if_neg he]
    rw [if_neg he] at hi
    have HI := Lib.hid hi
    clear hi he
    go_enter Tryz.func146, Tryz.ntmps146
    go_wp2_with fail
    refine (Tryz.stringslite_Index_one (bs s) e _).mono ?_
    rintro en w1 ⟨rfl, rfl⟩
    rw [bs_data, HI.out]
    go_wp2
    go_ret3
    exact ⟨by rw [H.out]; rfl, by (repeat' (first | with_reducible exact Below.refl _ _ | with_reducible assumption | with_reducible refine below_alloc ?_ ?_ _ | with_reducible refine Below.setCell ?_ ?_ _ | with_reducible refine Below.drew ?_ | with_reducible refine below_drewN ?_ _ | with_reducible refine below_step (by assumption) ?_ ?_ | (with_reducible refine Below.trans ?_ (Below.mono (by assumption) ?_)) | exact Nat.le_refl _ | (simp; done) | (simp; omega) | omega))⟩

theorem lkCut (e : UInt8) (s : List UInt8) (hs : s.length ≤ 9000000000000000000) (w : World) :
    Calls Tryz.prog 110 #[.string (bs s), .string (bs [e])] w fun en w' => en = .returned (cutV e s) ∧ Below w.heap.size w w' := by
  have hc := lkCutA e s hs
  unfold cutV at hc ⊢
  by_cases he : e ∈ s
  · rw [if_pos he] at hc ⊢
    go_enter Tryz.func110, Tryz.ntmps110
    go_wp2_with fail
    refine (hc _).mono ?_
    rintro en w1 ⟨rfl, hb1⟩
    go_wp2_with fail
    go_ret3
    exact ⟨rfl, hb1⟩
  · rw [if_neg he] at hc ⊢
    go_enter Tryz.func110, Tryz.ntmps110
    go_wp2_with fail
    refine (hc _).mono ?_
    rintro en w1 ⟨rfl, hb1⟩
    go_wp2_with fail
    go_ret3
    exact ⟨rfl, hb1⟩

def AtoiPost (p : List UInt8) (w : World) (e : Ending) (w' : World) : Prop := Below w.heap.size w w' ∧ ∃ (v : Int) (er : Value), e = .returned (.tuple #[.int .i64 v, er]) ∧ ((Lib.atoiAll p = .ok v ∧ er = .nilIface) ∨ ((∀ u, Lib.atoiAll p ≠ .ok u) ∧ ∃ N, er = .iface 235 (.pointer (some ⟨N, 0, none⟩))))
theorem tAtoi (p : List UInt8) (hp : p.length ≤ 281474976710656) (w : World) (hG : GErr w) : Calls Tryz.prog 109 #[.string (bs p)] w (AtoiPost p w) := by
  obtain ⟨⟨t1, p1, h1⟩, ⟨t2, p2, h2⟩⟩ := hG
  have hs : (bs p).size ≤ 281474976710656 := by rw [bs_size]; exact hp
  cases h : Lib.atoiAll p
  case ok v =>
    refine (Tryz.strconv_Atoi_ok (bs p) (by omega) v (by rw [bs_data]; exact h) w).mono fun e w' ⟨he, hw⟩ => ⟨?_, v, .nilIface, he, .inl ⟨h, rfl⟩⟩
    rcases hw with rfl | ⟨t, rfl⟩
    · exact Below.refl _ _
    · exact below_bytesWorld w t
  case range =>
    exact (Tryz.strconv_Atoi_range_var (bs p) hs (by rw [bs_data]; exact h) t2 p2 w h2).mono fun e w' ⟨N, he, _, _, hb⟩ => ⟨hb, _, _, he, .inr ⟨fun u hu => (by rw [h] at hu; cases hu), N, rfl⟩⟩
  exact (Any.strconv_Atoi_syntax_var Tryz.laysC172 (bs p) hs (by rw [bs_data]; exact h) t1 p1 w h1).mono fun e w' ⟨N, he, _, _, hb⟩ => ⟨hb, _, _, he, .inr ⟨fun u hu => (by rw [h] at hu; cases hu), N, rfl⟩⟩

theorem atoi_dec {p : List UInt8} (hne : p ≠ []) (h : p.all isDg = true) (hl : p.length ≤ 10) : Lib.atoiAll p = .ok (decV p : Int) := by
  have hb : ∀ l : List UInt8, l.all isDg = true → decV l < 10 ^ l.length := by
    intro l
    induction hk : l.length generalizing l with
    | zero => intro _; rw [List.eq_nil_of_length_eq_zero hk]; simp [decV]
    | succ k ih =>
      intro ha
      have hne : l ≠ [] := fun h => by rw [h] at hk; simp at hk
      obtain ⟨l', c, rfl⟩ : ∃ l' c, l = l' ++ [c] := ⟨l.dropLast, l.getLast hne, (List.dropLast_concat_getLast hne).symm⟩
      rw [List.all_append, Bool.and_eq_true] at ha
      have hc : 48 ≤ c.toNat ∧ c.toNat ≤ 57 := by simpa [isDg] using ha.2
      have := ih l' (by simpa using hk) ha.1
      rw [decV_snoc, Nat.pow_succ]
      omega
  have h1 := hb p h
  have h2 : 10 ^ p.length ≤ 10 ^ 10 := Nat.pow_le_pow_right (by omega) hl
  have h10 : (10 : Nat) ^ 10 = 10000000000 := by decide
  have hv : decV p ≤ 9223372036854775807 := by omega
  have hu : Lib.parseUint10 0 p = .ok (decV p) := parse_fold p 0 h hv
  cases p with
  | nil => exact absurd rfl hne
  | cons a p =>
    rw [List.all_cons, Bool.and_eq_true] at h
    have hd : 48 ≤ a.toNat ∧ a.toNat ≤ 57 := by simpa [isDg] using h.1
    unfold Lib.atoiAll
    simp only
    rw [if_neg (by omega)]
    unfold Lib.parseMag
    rw [if_neg (by simp), hu]
    simp only
    rw [if_neg (by omega), if_neg (by omega), if_neg (by omega)]

theorem idxF_any (l : List UInt8) : ∀ (f pos : Nat), l.length ≤ pos + f → decide (0 ≤ Lib.idxFuncFrom noDg true (bs l) f pos) = (l.drop pos).any (fun c => !isDg c)
  | 0, pos, h => by
    rw [List.drop_of_length_le (by omega)]
    simp [Lib.idxFuncFrom]
  | f + 1, pos, h => by
    rw [Lib.idxFuncFrom]
    by_cases hp : pos < (bs l).size
    · rw [if_pos hp]
      rw [bs_size] at hp
      obtain ⟨d1, d2⟩ := decode_dg l pos hp
      rw [List.drop_eq_getElem_cons hp, List.any_cons, d1]
      cases hd : isDg l[pos] with
      | true =>
        simp only [Bool.not_true, Bool.false_eq_true, if_false, Bool.false_or]
        rw [d2 hd]
        exact idxF_any l f (pos + 1) (by omega)
      | false => simp
    · rw [if_neg hp]
      rw [bs_size] at hp
      rw [List.drop_of_length_le (by omega)]
      simp
theorem idxF_all (l : List UInt8) : decide (0 ≤ Lib.idxFunc noDg true (bs l)) = !(l.all isDg) := by
  unfold Lib.idxFunc
  rw [idxF_any l _ 0 (by rw [bs_size]; omega), List.drop_zero, List.all_eq_not_any_not]
  simp

set_option maxRecDepth 100000 in
set_option maxHeartbeats 1000000 in
theorem lkDigit (r : Nat) (w : World) : Calls Tryz.prog 112 #[.int .i32 r] w fun e w' => e = .returned (.bool (noDg r)) ∧ w = w' := by
  by_cases h1 : r < 48
  · have H : Hid (noDg r = true) := by show noDg r = true; simp [noDg, h1]
    have b1 : decide ((r : Int) < 48) = true := by simp; omega
    clear h1
    go_enter Tryz.func112, Tryz.ntmps112
    go_wp2
    go_ret
    exact ⟨by first | (rw [H.out]; done) | (rw [H.out]; rfl), rfl⟩
  · have b1 : decide ((r : Int) < 48) = false := by simp; omega
    by_cases h2 : 57 < r
    · have H : Hid (noDg r = true) := by show noDg r = true; simp [noDg, h2]
      have b2 : decide (57 < (r : Int)) = true := by simp; omega
      clear h1 h2
      go_enter Tryz.func112, Tryz.ntmps112
      go_wp2
      go_ret
      exact ⟨by first | (rw [H.out]; done) | (rw [H.out]; rfl), rfl⟩
    · have H : Hid (noDg r = false) := by show noDg r = false; simp [noDg, h1, h2]
      have b2 : decide (57 < (r : Int)) = false := by simp; omega
      clear h1 h2
      go_enter Tryz.func112, Tryz.ntmps112
      go_wp2
      go_ret
      exact ⟨by first | (rw [H.out]; done) | (rw [H.out]; rfl), rfl⟩
theorem lkDigits (l : List UInt8) (w : World) :
    Calls Tryz.prog 111 #[.string (bs l), .func (.func 112) #[] #[]] w fun e w' => e = .returned (.bool (!(l.all isDg))) ∧ Below w.heap.size w w' := by
  rw [← idxF_all]
  exact Tryz.strings_ContainsFunc 112 #[] (fun _ _ => by kernel_rfl) noDg (bs l) w (fun W x _ => (lkDigit x W).mono fun e w' ⟨he, hw⟩ => ⟨he, 0, by rw [← hw]; rfl⟩)

def numV (e : UInt8) (s : List UInt8) : Value := match numP e s with | some (n, r) => .tuple #[.int .i64 n, .string (bs r), .bool true] | none => .tuple #[.int .i64 0, .string (bs []), .bool false]
theorem numV_none {e : UInt8} {s : List UInt8} (h : numP e s = none) : numV e s = .tuple #[.int .i64 0, .string (bs []), .bool false] := by unfold numV; rw [h]
theorem numV_some {e : UInt8} {s r : List UInt8} {n : Nat} (h : numP e s = some (n, r)) : numV e s = .tuple #[.int .i64 n, .string (bs r), .bool true] := by unfold numV; rw [h]
theorem numP_bad {e : UInt8} {s : List UInt8} (h : goodNum (s.takeWhile (· != e)) = false) : numP e s = none := by
  unfold numP; split
  · rw [if_neg (by rw [h]; simp)]
  · rfl
end Go.Proofs.YtfmckibiblhakaaGreatDoor
