/- The program's reader of terms: its numbers. The library's ParseInt at a text of digits, its worlds told by 'Below'. The program's reader of terms: a number that it reads. The program's reader of terms: names and texts. The program's reader of terms: texts. The program's reader of terms: what package variables hold; the reader's contract; parts one behind the other. The program's reader of terms: do the parts fit the op? how the rest is read. The program's reader of terms: the ways to read the rest, each by one contract. The program reads a term. The program: reading a right term; Right, Open. The library's Builder in this program: copyCheck and WriteString (the shelf's contracts do not lay here: copyCheck's panic is not in the translation). The program makes terms: texts, names, what is put together. The program makes terms: out of one and two, side by side; public keys. -/
import Derived.Test.YtembdkodajichaaGreatDoorMSpec
import Derived.Test.YtembdkodajichaaGreatDoorShelf
import Derived.Deep.QuietTactic
import Derived.BigQuiet
import Derived.Deep.RegionHeld3
import Derived.Lib.LaidTab
import Derived.Deep.DeepCutAuto
import Derived.Lib.Builder
import Derived.Lib.FrozenHead
import Derived.Lib.AppendStr
import Derived.Lib.UnsafeStr
import Derived.Shelf.Strings.BuilderF
import Derived.Lib.AppendIntMem
set_option maxRecDepth 100000
set_option maxHeartbeats 2000000
set_option linter.unusedSimpArgs false
set_option linter.unusedVariables false
-- TermN
namespace Go.Proofs.YtembdkodajichaaGreatDoor
open Go.RowKit
def v5_ (w : World) (b : Nat) (l : List UInt8) (i : Int) : Prop := w.heap[b]? = some (.cells #[.string (bs l), .int .i64 i] 188 (0, 0))
theorem zdD_ (s : List UInt8) (x : Int) (e : UInt8) (hx : x = e.toNat) (w : World) :
  Calls Tryz.prog 172 #[.string (bs s), .int .u8 x] w fun en w' => en = .returned (.int .i64 (Lib.indexByte s e)) ∧ w' = w := by
 have h := Tryz.strings_IndexByte (bs s) x w
 rw [za3_] at h
 have : x.toNat.toUInt8 = e := by subst hx; simp
 rw [this] at h
 exact h
def zfq_ (b : Nat) (l : List UInt8) (i : Nat) (w : World) (o : Option (Nat × Nat)) (e : Ending) (w' : World) : Prop :=
 w.grownBy w' (some b) ∧
 match o with
 | none => ∃ v a : Int, e = .returned (.tuple #[.int .i64 v, .bool false]) ∧ v5_ w' b l a
 | some (n, k) => e = .returned (.tuple #[.int .i64 n, .bool true]) ∧ v5_ w' b l (i + k : Nat)
theorem zi0_ (l : List UInt8) (b i : Nat) (x : Int) (e : UInt8) (hx : x = e.toNat) (hi : i ≤ l.length) (hl : l.length ≤ 20000) (w : World) (hR : v5_ w b l i)
  (hk : Lib.indexByte (l.drop i) e < 1 ∨ 19 < Lib.indexByte (l.drop i) e ∨ (∃ h : i < l.length, l[i].toNat = 48 ∧ 1 < Lib.indexByte (l.drop i) e) ∨ (∃ h : i < l.length, l[i].toNat < 48 ∨ 57 < l[i].toNat)) :
  Calls Tryz.prog 194 #[.pointer (some ⟨b, 0, none⟩), .int .u8 x] w (zfq_ b l i w none) := by
 subst hx
 have f0 := z0_ hR
 have f1 := z8_ hR
 have i1 : (i : Int) ≤ l.length := by omega
 have i2 : (0 : Int) ≤ (i : Int) := by omega
 have ht : List.take (l.length - i) (List.drop i l) = List.drop i l := List.take_of_length_le si_
 have hge := zeg_ (l.drop i) e
 have HR := Lib.hid hR
 clear hR
 have hpost : ∀ w', w.grownBy w' (some b) → v5_ w' b l i → zfq_ b l i w none (.returned (.tuple #[.int .i64 0, .bool false])) w' := fun w' h1 h2 => ⟨h1, 0, i, rfl, h2⟩
 have HP := Lib.hid hpost
 clear hpost
 by_cases c1 : Lib.indexByte (l.drop i) e < 1
 · clear hk
   go_enter Tryz.func194, Tryz.ntmps194
   go_wp2
   go_quiet ((go_at_call 172; exact Calls.quiet_of_same (zdD_ _ _ e rfl _)))
   go_wp2
   go_quiet (fail)
   go_wp2
   go_ret2
   exact HP.out _ (by (repeat' (first | with_reducible exact zcG_ _ _ | with_reducible assumption | with_reducible refine zcJ_ ?_ _ | with_reducible refine zcH_ ?_ _ | with_reducible refine zcI_ ?_ | with_reducible refine za5_ ?_ (.inl rfl) _ | (with_reducible refine za5_ ?_ (.inr ?_) _) | with_reducible refine zbU_ ?_ as_ | with_reducible refine zcK_ ?_ as_ | exact Nat.le_refl _ | (simp; done) | (simp; omega) | omega))) HR.out
 · by_cases c2 : 19 < Lib.indexByte (l.drop i) e
   · clear hk
     have d1 : decide (Lib.indexByte (l.drop i) e < 1) = false := by simp; omega
     have d2 : decide (19 < Lib.indexByte (l.drop i) e) = true := by simp; omega
     clear c1 c2
     go_enter Tryz.func194, Tryz.ntmps194
     go_wp2
     go_quiet ((go_at_call 172; exact Calls.quiet_of_same (zdD_ _ _ e rfl _)))
     go_wp2
     go_quiet (fail)
     go_wp2
     go_ret2
     exact HP.out _ (by (repeat' (first | with_reducible exact zcG_ _ _ | with_reducible assumption | with_reducible refine zcJ_ ?_ _ | with_reducible refine zcH_ ?_ _ | with_reducible refine zcI_ ?_ | with_reducible refine za5_ ?_ (.inl rfl) _ | (with_reducible refine za5_ ?_ (.inr ?_) _) | with_reducible refine zbU_ ?_ as_ | with_reducible refine zcK_ ?_ as_ | exact Nat.le_refl _ | (simp; done) | (simp; omega) | omega))) HR.out
   · have d1 : decide (Lib.indexByte (l.drop i) e < 1) = false := by simp; omega
     have d2 : decide (19 < Lib.indexByte (l.drop i) e) = false := by simp; omega
     have hk2 : (∃ h : i < l.length, l[i].toNat = 48 ∧ 1 < Lib.indexByte (l.drop i) e) ∨ (∃ h : i < l.length, l[i].toNat < 48 ∨ 57 < l[i].toNat) := by
      rcases hk with h | h | h
      · exact absurd h c1
      · exact absurd h c2
      · exact h
     clear hk c1 c2
     have hil : i < l.length := by rcases hk2 with ⟨h, _⟩ | ⟨h, _⟩ <;> exact h
     have i3 : (i : Int) < l.length := by omega
     by_cases c3 : l[i].toNat = 48 ∧ 1 < Lib.indexByte (l.drop i) e
     · obtain ⟨c3a, c3b⟩ := c3
       have hb3 : (((l[i].toNat : Nat) : Int) == 48) = true := by simp [c3a]
       have d3 : decide (1 < Lib.indexByte (l.drop i) e) = true := by simp; omega
       clear hk2 c3a
       go_enter Tryz.func194, Tryz.ntmps194
       go_wp2
       go_quiet ((go_at_call 172; exact Calls.quiet_of_same (zdD_ _ _ e rfl _)))
       go_wp2
       go_quiet (fail)
       go_wp2
       go_ret2
       exact HP.out _ (by (repeat' (first | with_reducible exact zcG_ _ _ | with_reducible assumption | with_reducible refine zcJ_ ?_ _ | with_reducible refine zcH_ ?_ _ | with_reducible refine zcI_ ?_ | with_reducible refine za5_ ?_ (.inl rfl) _ | (with_reducible refine za5_ ?_ (.inr ?_) _) | with_reducible refine zbU_ ?_ as_ | with_reducible refine zcK_ ?_ as_ | exact Nat.le_refl _ | (simp; done) | (simp; omega) | omega))) HR.out
     · have hd : l[i].toNat < 48 ∨ 57 < l[i].toNat := by
        rcases hk2 with ⟨_, h⟩ | ⟨_, h⟩
        · exact absurd h c3
        · exact h
       have hb3 : (((l[i].toNat : Nat) : Int) == 48) = false := by simp; omega
       clear hk2 c3
       by_cases c4 : l[i].toNat < 48
       · have d4 : decide (((l[i].toNat : Nat) : Int) < 48) = true := by simp; omega
         clear hd c4
         go_enter Tryz.func194, Tryz.ntmps194
         go_wp2
         go_quiet ((go_at_call 172; exact Calls.quiet_of_same (zdD_ _ _ e rfl _)))
         go_wp2
         go_quiet (fail)
         go_wp2
         go_ret2
         exact HP.out _ (by (repeat' (first | with_reducible exact zcG_ _ _ | with_reducible assumption | with_reducible refine zcJ_ ?_ _ | with_reducible refine zcH_ ?_ _ | with_reducible refine zcI_ ?_ | with_reducible refine za5_ ?_ (.inl rfl) _ | (with_reducible refine za5_ ?_ (.inr ?_) _) | with_reducible refine zbU_ ?_ as_ | with_reducible refine zcK_ ?_ as_ | exact Nat.le_refl _ | (simp; done) | (simp; omega) | omega))) HR.out
       · have d4 : decide (((l[i].toNat : Nat) : Int) < 48) = false := by simp; omega
         have d5 : decide (57 < ((l[i].toNat : Nat) : Int)) = true := by simp; omega
         clear hd c4
         go_enter Tryz.func194, Tryz.ntmps194
         go_wp2
         go_quiet ((go_at_call 172; exact Calls.quiet_of_same (zdD_ _ _ e rfl _)))
         go_wp2
         go_quiet (fail)
         go_wp2
         go_ret2
         exact HP.out _ (by (repeat' (first | with_reducible exact zcG_ _ _ | with_reducible assumption | with_reducible refine zcJ_ ?_ _ | with_reducible refine zcH_ ?_ _ | with_reducible refine zcI_ ?_ | with_reducible refine za5_ ?_ (.inl rfl) _ | (with_reducible refine za5_ ?_ (.inr ?_) _) | with_reducible refine zbU_ ?_ as_ | with_reducible refine zcK_ ?_ as_ | exact Nat.le_refl _ | (simp; done) | (simp; omega) | omega))) HR.out
end Go.Proofs.YtembdkodajichaaGreatDoor
-- TermP
namespace Go.Proofs.YtembdkodajichaaGreatDoor
open Go.RowKit
def GErr (w : World) : Prop := (∃ tp p, w.var? Tryz.prog "strconv.ErrSyntax" = some #[.iface tp p]) ∧ (∃ tp p, w.var? Tryz.prog "strconv.ErrRange" = some #[.iface tp p])
theorem zi1_ (w : World) (t : ByteArray) : Below w.heap.size w (Lib.bytesWorld w 5 t) := by
 refine ⟨?_, ?_, ?_, ?_, ?_⟩
 · unfold Lib.bytesWorld World.freeze; split <;> rfl
 · unfold Lib.bytesWorld World.freeze; split <;> rfl
 · unfold Lib.bytesWorld World.freeze; split <;> rfl
 · unfold Lib.bytesWorld World.freeze
   split
   · show w.heap.size ≤ (w.heap.push _).size
     simp
   · show w.heap.size ≤ ((w.heap.push _).modify _ _).size
     simp
 · intro k hk
   unfold Lib.bytesWorld World.freeze
   split
   · show (w.heap.push _)[k]? = _
     rw [Array.getElem?_push, if_neg om_]
   · show ((w.heap.push _).modify _ _)[k]? = _
     rw [Array.getElem?_modify, if_neg (by simp only; omega), Array.getElem?_push, if_neg om_]
def zi2_ (w : World) (o : Option Nat) (e : Ending) (w' : World) : Prop :=
 Below w.heap.size w w' ∧
 match o with
 | some n => e = .returned (.tuple #[.int .i64 n, .nilIface])
 | none => ∃ (v : Int) (T N : Nat), e = .returned (.tuple #[.int .i64 v, .iface T (.pointer (some ⟨N, 0, none⟩))])
theorem zfr_ (p : List UInt8) (hp : p.length ≤ 19) (hd : 48 ≤ (head p).toNat) (w : World) (hG : GErr w) :
  Calls Tryz.prog 33 #[.string (bs p), .int .i64 10, .int .i64 64] w
   (zi2_ w (parsed p)) := by
 show Calls _ _ _ w (zi2_ w (match Lib.parseIntB 64 p with | .ok v => some v.toNat | _ => none))
 obtain ⟨⟨t1, p1, h1⟩, ⟨t2, p2, h2⟩⟩ := hG
 have hs : (bs p).size ≤ 19 := by rw [zaL_]; exact hp
 cases h : Lib.parseIntB 64 p
 case ok v =>
  have hv : 0 ≤ v := by
   cases p with
   | nil => simp [Lib.parseIntB] at h
   | cons c r =>
     have hc : 48 ≤ c.toNat := hd
     have h45 : ¬ c.toNat = 45 := by omega
     simp only [Lib.parseIntB, h45, not_false_eq_true, true_and, false_and, if_false] at h
     split at h
     · simp at h
     · simp at h
     · split at h
       · simp at h
       · simp only [Lib.NumEnd.ok.injEq] at h; omega
  have := Tryz.strconv_ParseInt_10_at64_ok (bs p) om_ v (by rw [za3_]; exact h) w
  refine this.mono fun e w' ⟨he, hw⟩ => ⟨?_, ?_⟩
  · rcases hw with rfl | ⟨t, rfl⟩
    · exact Below.refl _ _
    · exact zi1_ w t
  · rw [he]
    show Ending.returned _ = Ending.returned (.tuple #[.int .i64 (v.toNat : Nat), .nilIface])
    rw [Int.toNat_of_nonneg hv]
 case range =>
  have := Tryz.strconv_ParseInt_10_at64_range_var (bs p) om_ (by rw [za3_]; exact h) t2 p2 w h2
  exact this.mono fun e w' ⟨N, he, _, _, hb⟩ => ⟨hb, _, _, N, he⟩
 have := Any.strconv_ParseInt_10_at64_syntax_var Tryz.laysC174 (bs p) om_ (by rw [za3_]; exact h) t1 p1 w h1
 exact this.mono fun e w' ⟨N, he, _, _, hb⟩ => ⟨hb, _, _, N, he⟩
end Go.Proofs.YtembdkodajichaaGreatDoor
-- TermQ
namespace Go.Proofs.YtembdkodajichaaGreatDoor
open Go.RowKit
theorem zfs_ {w : World} (h : GErr w) (n : Nat) : GErr (w.drewN n) := h
theorem znY_ (l : List UInt8) (b i n : Nat) (x : Int) (e : UInt8) (hx : x = e.toNat) (hi : i < l.length) (hl : l.length ≤ 20000) (w : World) (hR : v5_ w b l i) (hG : GErr w)
  (hk : Lib.indexByte (l.drop i) e = n) (hn1 : 1 ≤ n) (hn2 : n ≤ 19) (hin : i + n ≤ l.length) (h48 : l[i].toNat = 48 → n = 1) (hlo : 48 ≤ l[i].toNat) (hhi : l[i].toNat ≤ 57) :
  Calls Tryz.prog 194 #[.pointer (some ⟨b, 0, none⟩), .int .u8 x] w
   (zfq_ b l i w ((parsed ((l.drop i).take n)).map fun v => (v, n + 1))) := by
 subst hx
 have f0 := z0_ hR
 have f1 := z8_ hR
 have i1 : (i : Int) ≤ l.length := by omega
 have i2 : (0 : Int) ≤ (i : Int) := by omega
 have i3 : (i : Int) < l.length := by omega
 have ht : List.take (l.length - i) (List.drop i l) = List.drop i l := List.take_of_length_le si_
 have d1 : decide ((n : Int) < 1) = false := by simp; omega
 have d2 : decide (19 < (n : Int)) = false := by simp; omega
 have d4 : decide (((l[i].toNat : Nat) : Int) < 48) = false := by simp; omega
 have d5 : decide (57 < ((l[i].toNat : Nat) : Int)) = false := by simp; omega
 have HR := Lib.hid hR
 have HG := Lib.hid hG
 clear hR hG
 by_cases c3 : l[i].toNat = 48
 · have d3 : decide (1 < (n : Int)) = false := by have := h48 c3; simp; omega
   have hb3 : (((l[i].toNat : Nat) : Int) == 48) = true := by simp [c3]
   clear h48 c3
   go_enter Tryz.func194, Tryz.ntmps194
   go_wp2
   go_quiet ((go_at_call 172; exact Calls.quiet_of_same (zdD_ _ _ e rfl _)))
   go_wp2
   go_quiet (fail)
   go_wp2
   rw [hk]
   have e1 : IntKind.i64.wrap ((i : Int) + n) = (i : Int) + n := IntWalk.i64_in _ om_
   have e2 : ((i : Int) + n).toNat = i + n := by omega
   have e3 : (i : Int) ≤ (i : Int) + n := by omega
   have e4 : (i : Int) + n ≤ l.length := by omega
   have e5 : (0 : Int) ≤ (i : Int) + n := by omega
   have hpl : ((l.drop i).take n).length ≤ 19 := by rw [List.length_take]; omega
   have hph : 48 ≤ (head ((l.drop i).take n)).toNat := by
    have : head ((l.drop i).take n) = l[i] := by
     rw [List.drop_eq_getElem_cons hi, show n = (n - 1) + 1 by omega]; rfl
    rw [this]; exact hlo
   cases ho : parsed ((l.drop i).take n) with
   | none =>
     have HO := Lib.hid ho
     clear ho
     go_region_held3 (fun w' => w'.cell? ⟨b, 0, none⟩ = some (.string (bs l)) ∧ w'.cell? ⟨b, 1, none⟩ = some (.int .i64 i))
      (first | go_keep | (go_split_ands; refine ⟨?_, ?_⟩ <;> exact (hbk.cell (World.block_lt_of_cell? _ _ as_)).trans as_))
      ((go_at_call 33; refine (zfr_ _ hpl hph _ (zfs_ HG.out _)).mono ?_; rintro en wk hbk; rw [HO.out] at hbk; obtain ⟨hbk, v, T, N, rfl⟩ := hbk; have HRk : Hid (v5_ wk b l i) := x0_ (show (w.drewN _).heap[b]? = _ from HR.out) hbk (z4_ (show (w.drewN _).heap[b]? = _ from HR.out)); have f2 := z8_ HRk.out))
     go_wp2
     go_region
     all_goals
      go_wp2
      go_ret2
      rw [HO.out]
      exact ⟨by (repeat' (first | with_reducible exact zcG_ _ _ | with_reducible assumption | with_reducible refine zcJ_ ?_ _ | with_reducible refine zcH_ ?_ _ | with_reducible refine zcI_ ?_ | with_reducible refine za5_ ?_ (.inl rfl) _ | (with_reducible refine za5_ ?_ (.inr ?_) _) | with_reducible refine zbU_ ?_ as_ | with_reducible refine zcK_ ?_ as_ | exact Nat.le_refl _ | (simp; done) | (simp; omega) | omega)), v, (i : Int) + ((n : Int) + 1), rfl, z3_ HRk.out 1 _⟩
   | some v =>
     have HO := Lib.hid ho
     clear ho
     go_region_held3 (fun w' => w'.cell? ⟨b, 0, none⟩ = some (.string (bs l)) ∧ w'.cell? ⟨b, 1, none⟩ = some (.int .i64 i))
      (first | go_keep | (go_split_ands; refine ⟨?_, ?_⟩ <;> exact (hbk.cell (World.block_lt_of_cell? _ _ as_)).trans as_))
      ((go_at_call 33; refine (zfr_ _ hpl hph _ (zfs_ HG.out _)).mono ?_; rintro en wk hbk; rw [HO.out] at hbk; obtain ⟨hbk, rfl⟩ := hbk; have HRk : Hid (v5_ wk b l i) := x0_ (show (w.drewN _).heap[b]? = _ from HR.out) hbk (z4_ (show (w.drewN _).heap[b]? = _ from HR.out)); have f2 := z8_ HRk.out))
     go_wp2
     go_region
     all_goals
      go_wp2
      go_ret2
      rw [HO.out]
      refine ⟨by (repeat' (first | with_reducible exact zcG_ _ _ | with_reducible assumption | with_reducible refine zcJ_ ?_ _ | with_reducible refine zcH_ ?_ _ | with_reducible refine zcI_ ?_ | with_reducible refine za5_ ?_ (.inl rfl) _ | (with_reducible refine za5_ ?_ (.inr ?_) _) | with_reducible refine zbU_ ?_ as_ | with_reducible refine zcK_ ?_ as_ | exact Nat.le_refl _ | (simp; done) | (simp; omega) | omega)), rfl, ?_⟩
      show v5_ _ b l ((i + (n + 1) : Nat) : Int)
      rw [show ((i + (n + 1) : Nat) : Int) = (i : Int) + ((n : Int) + 1) by omega]
      exact z3_ HRk.out 1 _
 · have hb3 : (((l[i].toNat : Nat) : Int) == 48) = false := by simp; omega
   clear h48 c3
   go_enter Tryz.func194, Tryz.ntmps194
   go_wp2
   go_quiet ((go_at_call 172; exact Calls.quiet_of_same (zdD_ _ _ e rfl _)))
   go_wp2
   go_quiet (fail)
   go_wp2
   rw [hk]
   have e1 : IntKind.i64.wrap ((i : Int) + n) = (i : Int) + n := IntWalk.i64_in _ om_
   have e2 : ((i : Int) + n).toNat = i + n := by omega
   have e3 : (i : Int) ≤ (i : Int) + n := by omega
   have e4 : (i : Int) + n ≤ l.length := by omega
   have e5 : (0 : Int) ≤ (i : Int) + n := by omega
   have hpl : ((l.drop i).take n).length ≤ 19 := by rw [List.length_take]; omega
   have hph : 48 ≤ (head ((l.drop i).take n)).toNat := by
    have : head ((l.drop i).take n) = l[i] := by
     rw [List.drop_eq_getElem_cons hi, show n = (n - 1) + 1 by omega]; rfl
    rw [this]; exact hlo
   cases ho : parsed ((l.drop i).take n) with
   | none =>
     have HO := Lib.hid ho
     clear ho
     go_region_held3 (fun w' => w'.cell? ⟨b, 0, none⟩ = some (.string (bs l)) ∧ w'.cell? ⟨b, 1, none⟩ = some (.int .i64 i))
      (first | go_keep | (go_split_ands; refine ⟨?_, ?_⟩ <;> exact (hbk.cell (World.block_lt_of_cell? _ _ as_)).trans as_))
      ((go_at_call 33; refine (zfr_ _ hpl hph _ (zfs_ HG.out _)).mono ?_; rintro en wk hbk; rw [HO.out] at hbk; obtain ⟨hbk, v, T, N, rfl⟩ := hbk; have HRk : Hid (v5_ wk b l i) := x0_ (show (w.drewN _).heap[b]? = _ from HR.out) hbk (z4_ (show (w.drewN _).heap[b]? = _ from HR.out)); have f2 := z8_ HRk.out))
     go_wp2
     go_region
     all_goals
      go_wp2
      go_ret2
      rw [HO.out]
      exact ⟨by (repeat' (first | with_reducible exact zcG_ _ _ | with_reducible assumption | with_reducible refine zcJ_ ?_ _ | with_reducible refine zcH_ ?_ _ | with_reducible refine zcI_ ?_ | with_reducible refine za5_ ?_ (.inl rfl) _ | (with_reducible refine za5_ ?_ (.inr ?_) _) | with_reducible refine zbU_ ?_ as_ | with_reducible refine zcK_ ?_ as_ | exact Nat.le_refl _ | (simp; done) | (simp; omega) | omega)), v, (i : Int) + ((n : Int) + 1), rfl, z3_ HRk.out 1 _⟩
   | some v =>
     have HO := Lib.hid ho
     clear ho
     go_region_held3 (fun w' => w'.cell? ⟨b, 0, none⟩ = some (.string (bs l)) ∧ w'.cell? ⟨b, 1, none⟩ = some (.int .i64 i))
      (first | go_keep | (go_split_ands; refine ⟨?_, ?_⟩ <;> exact (hbk.cell (World.block_lt_of_cell? _ _ as_)).trans as_))
      ((go_at_call 33; refine (zfr_ _ hpl hph _ (zfs_ HG.out _)).mono ?_; rintro en wk hbk; rw [HO.out] at hbk; obtain ⟨hbk, rfl⟩ := hbk; have HRk : Hid (v5_ wk b l i) := x0_ (show (w.drewN _).heap[b]? = _ from HR.out) hbk (z4_ (show (w.drewN _).heap[b]? = _ from HR.out)); have f2 := z8_ HRk.out))
     go_wp2
     go_region
     all_goals
      go_wp2
      go_ret2
      rw [HO.out]
      refine ⟨by (repeat' (first | with_reducible exact zcG_ _ _ | with_reducible assumption | with_reducible refine zcJ_ ?_ _ | with_reducible refine zcH_ ?_ _ | with_reducible refine zcI_ ?_ | with_reducible refine za5_ ?_ (.inl rfl) _ | (with_reducible refine za5_ ?_ (.inr ?_) _) | with_reducible refine zbU_ ?_ as_ | with_reducible refine zcK_ ?_ as_ | exact Nat.le_refl _ | (simp; done) | (simp; omega) | omega)), rfl, ?_⟩
      show v5_ _ b l ((i + (n + 1) : Nat) : Int)
      rw [show ((i + (n + 1) : Nat) : Int) = (i : Int) + ((n : Int) + 1) by omega]
      exact z3_ HRk.out 1 _
theorem znZ_ (l : List UInt8) (b i : Nat) (x : Int) (e : UInt8) (he : e.toNat = 58 ∨ e.toNat = 59) (hx : x = e.toNat) (hi : i ≤ l.length) (hl : l.length ≤ 20000) (w : World) (hR : v5_ w b l i) (hG : GErr w) :
  Calls Tryz.prog 194 #[.pointer (some ⟨b, 0, none⟩), .int .u8 x] w (zfq_ b l i w (num e (l.drop i))) := by
 have hge := zlq_ (l.drop i) e
 by_cases h1 : Lib.indexByte (l.drop i) e = -1
 · rw [show num e (l.drop i) = none from zh7_ e _ 0 0 (zh4_ _ _ h1)]
   exact zi0_ l b i x e hx hi hl w hR (.inl om_)
 · obtain ⟨n, hn⟩ := Int.eq_ofNat_of_zero_le (show 0 ≤ Lib.indexByte (l.drop i) e by omega)
   obtain ⟨p, q, hpq, hpl, hpe⟩ := zh5_ _ _ n hn
   have hnum := zlr_ e he p q hpe
   rw [← hpq] at hnum
   rw [hnum]
   have hlen : (l.drop i).length = n + 1 + q.length := by rw [hpq]; simp; omega
   rw [List.length_drop] at hlen
   have hil : i < l.length := by omega
   by_cases hbad : p.length < 1 ∨ 19 < p.length ∨ (head p).toNat = 48 ∧ 1 < p.length ∨ (head p).toNat < 48 ∨ 57 < (head p).toNat
   · have : zbn_ p = none := by unfold zbn_; rw [if_pos hbad]
     rw [this]
     refine zi0_ l b i x e hx hi hl w hR ?_
     rw [hn]
     by_cases hp0 : p.length < 1
     · exact .inl om_
     · have hhd : head p = l[i] := by
        have h := List.drop_eq_getElem_cons hil
        rw [hpq] at h
        cases p with
        | nil => simp at hp0
        | cons c r => simp only [List.cons_append, List.cons.injEq] at h; exact h.1
       rw [hhd] at hbad
       rcases hbad with h | h | h | h
       · omega
       · exact .inr (.inl om_)
       · exact .inr (.inr (.inl ⟨hil, h.1, by omega⟩))
       · exact .inr (.inr (.inr ⟨hil, h⟩))
   · have hpn : zbn_ p = parsed p := by unfold zbn_; rw [if_neg hbad]; rfl
     have hhd : head p = l[i] := by
      have h := List.drop_eq_getElem_cons hil
      rw [hpq] at h
      cases p with
      | nil => simp at hbad
      | cons c r => simp only [List.cons_append, List.cons.injEq] at h; exact h.1
     rw [hhd] at hbad
     have htk : (l.drop i).take n = p := by rw [hpq, ← hpl]; simp
     have := znY_ l b i n x e hx hil hl w hR hG hn om_ om_ om_ om_ om_ om_
     rw [htk] at this
     rw [hpn, hpl]
     exact this
end Go.Proofs.YtembdkodajichaaGreatDoor
-- TermR
namespace Go.Proofs.YtembdkodajichaaGreatDoor
open Go.RowKit
def zn0_ (b : Nat) (l : List UInt8) (i : Nat) (w : World) (o : Option (Nat × Nat)) (e : Ending) (w' : World) : Prop :=
 GL [b] w w' ∧
 match o with
 | none => ∃ v a : Int, e = .returned (.tuple #[.int .i64 v, .bool false]) ∧ v5_ w' b l a
 | some (n, k) => e = .returned (.tuple #[.int .i64 n, .bool true]) ∧ v5_ w' b l (i + k : Nat)
theorem zcB_ (l : List UInt8) (b i : Nat) (x : Int) (e : UInt8) (he : e.toNat = 58 ∨ e.toNat = 59) (hx : x = e.toNat) (hi : i ≤ l.length) (hl : l.length ≤ 20000) (w : World) (hR : v5_ w b l i) (hG : GErr w) :
  Calls Tryz.prog 194 #[.pointer (some ⟨b, 0, none⟩), .int .u8 x] w (zn0_ b l i w (num e (l.drop i))) :=
 (znZ_ l b i x e he hx hi hl w hR hG).mono fun _ _ h => ⟨zcu_ h.1 (y1_ _ _) si_, h.2⟩
def ShAt (w : World) (X : Nat) (op n : Int) (t : List UInt8) (kv : Value) (dp : Int) : Prop :=
 w.heap[X]? = some (.cells #[.int .u8 op, .int .i64 n, .string (bs t), kv, .int .i64 dp] 155 (0, 0))
def zn1_ (b X : Nat) (l : List UInt8) (i : Nat) (op : Int) (t : List UInt8) (kv : Value) (dp : Int) (w : World) (o : Option (Nat × Nat)) (e : Ending) (w' : World) : Prop :=
 GL [b, X] w w' ∧
 match o with
 | none => e = .returned (.bool false) ∧ ∃ a : Int, v5_ w' b l a
 | some (n, k) => e = .returned (.bool true) ∧ v5_ w' b l (i + k : Nat) ∧ ShAt w' X op n t kv dp
theorem zn2_ (l : List UInt8) (b X i : Nat) (room op n0 : Int) (t : List UInt8) (kv : Value) (dp : Int) (hi : i ≤ l.length) (hl : l.length ≤ 20000) (w : World) (hR : v5_ w b l i) (hX : ShAt w X op n0 t kv dp) (hbX : b ≠ X) (hG : GErr w) :
  Calls Tryz.prog 184 #[.pointer (some ⟨b, 0, none⟩), .pointer (some ⟨X, 0, none⟩), .int .i64 room] w (zn1_ b X l i op t kv dp w (num 59 (l.drop i))) := by
 cases hn : num 59 (l.drop i) with
 | none =>
   have HN := Lib.hid hn
   clear hn
   go_enter Tryz.func184, Tryz.ntmps184
   go_wp2_with (go_at_call 194; refine (zcB_ l b i _ 59 (.inr rfl) rfl hi hl _ hR hG).mono ?_; rintro e w1 hp; rw [HN.out] at hp; obtain ⟨hg, v, a, rfl, hR1⟩ := hp; have hX1 := x6_ hX hg so_; have f0 := z8_ hX1; have f1 := z0_ hX1)
   go_ret
   refine ⟨gl_, rfl, a, v0_ hR1 (by simpa using hbX) _⟩
 | some y =>
   obtain ⟨n, k⟩ := y
   have HN := Lib.hid hn
   clear hn
   go_enter Tryz.func184, Tryz.ntmps184
   go_wp2_with (go_at_call 194; refine (zcB_ l b i _ 59 (.inr rfl) rfl hi hl _ hR hG).mono ?_; rintro e w1 hp; rw [HN.out] at hp; obtain ⟨hg, rfl, hR1⟩ := hp; have hX1 := x6_ hX hg so_; have f0 := z8_ hX1; have f1 := z0_ hX1)
   go_ret
   refine ⟨gl_, rfl, v0_ hR1 (by simpa using hbX) _, z3_ hX1 1 _⟩
end Go.Proofs.YtembdkodajichaaGreatDoor
-- TermS
namespace Go.Proofs.YtembdkodajichaaGreatDoor
open Go.RowKit
def zbO_ (l : List UInt8) : Option (Nat × Nat) :=
 match num 58 l with
 | none => none
 | some (n, k) => if 4096 < n ∨ l.length - k < n then none else some (n, k)
def zn3_ (b X : Nat) (l : List UInt8) (i : Nat) (op n0 : Int) (kv : Value) (dp : Int) (w : World) (o : Option (Nat × Nat)) (e : Ending) (w' : World) : Prop :=
 GL [b, X] w w' ∧
 match o with
 | none => e = .returned (.bool false) ∧ ∃ a : Int, v5_ w' b l a
 | some (n, k) => e = .returned (.bool true) ∧ v5_ w' b l (i + k + n : Nat) ∧ ShAt w' X op n0 ((l.drop (i + k)).take n) kv dp
theorem zn4_ (l : List UInt8) (b X i : Nat) (room op n0 : Int) (t : List UInt8) (kv : Value) (dp : Int) (hi : i ≤ l.length) (hl : l.length ≤ 20000) (w : World) (hR : v5_ w b l i) (hX : ShAt w X op n0 t kv dp) (hbX : b ≠ X) (hG : GErr w) :
  Calls Tryz.prog 185 #[.pointer (some ⟨b, 0, none⟩), .pointer (some ⟨X, 0, none⟩), .int .i64 room] w (zn3_ b X l i op n0 kv dp w (zbO_ (l.drop i))) := by
 cases hn : num 58 (l.drop i) with
 | none =>
   have HT : Hid (zbO_ (l.drop i) = none) := by show zbO_ (l.drop i) = none; simp [zbO_, hn]
   rw [HT.out]
   have HN := Lib.hid hn
   clear hn
   go_enter Tryz.func185, Tryz.ntmps185
   go_wp2_with (go_at_call 194; refine (zcB_ l b i _ 58 (.inl rfl) rfl hi hl _ hR hG).mono ?_; rintro e w1 hp; rw [HN.out] at hp; obtain ⟨hg, v, a, rfl, hR1⟩ := hp; have f0 := z8_ hR1; have f1 := z0_ hR1)
   go_quiet (fail)
   go_wp2
   go_ret
   exact ⟨gl_, rfl, a, hR1⟩
 | some y =>
   obtain ⟨n, k⟩ := y
   obtain ⟨hk2, hkl, hnb⟩ := zcl_ hn
   rw [List.length_drop] at hkl
   have hkl' : (i : Int) + k ≤ l.length := by omega
   have HN := Lib.hid hn
   by_cases hbad : 4096 < n ∨ l.length - (i + k) < n
   · have HT : Hid (zbO_ (l.drop i) = none) := by show zbO_ (l.drop i) = none; simp only [zbO_, hn, List.length_drop]; rw [if_pos om_]
     rw [HT.out]
     clear hn
     by_cases h4 : 4096 < n
     · have d1 : decide ((4096 : Int) < (n : Int)) = true := by simp; omega
       clear hbad h4
       go_enter Tryz.func185, Tryz.ntmps185
       go_wp2_with (go_at_call 194; refine (zcB_ l b i _ 58 (.inl rfl) rfl hi hl _ hR hG).mono ?_; rintro e w1 hp; rw [HN.out] at hp; obtain ⟨hg, rfl, hR1⟩ := hp; have f0 := z8_ hR1; have f1 := z0_ hR1)
       go_quiet (fail)
       go_wp2
       go_ret
       exact ⟨gl_, rfl, _, hR1⟩
     · have d1 : decide ((4096 : Int) < (n : Int)) = false := by simp; omega
       have d2 : decide ((l.length : Int) - ((i : Int) + k) < (n : Int)) = true := by simp; omega
       clear hbad h4
       go_enter Tryz.func185, Tryz.ntmps185
       go_wp2_with (go_at_call 194; refine (zcB_ l b i _ 58 (.inl rfl) rfl hi hl _ hR hG).mono ?_; rintro e w1 hp; rw [HN.out] at hp; obtain ⟨hg, rfl, hR1⟩ := hp; have f0 := z8_ hR1; have f1 := z0_ hR1)
       go_quiet (fail)
       go_wp2
       go_ret
       exact ⟨gl_, rfl, _, hR1⟩
   · have HT : Hid (zbO_ (l.drop i) = some (n, k)) := by show zbO_ (l.drop i) = _; simp only [zbO_, hn, List.length_drop]; rw [if_neg om_]
     rw [HT.out]
     clear hn
     have d1 : decide ((4096 : Int) < (n : Int)) = false := by simp; omega
     have d2 : decide ((l.length : Int) - ((i : Int) + k) < (n : Int)) = false := by simp; omega
     have h5 : (i : Int) + k + n ≤ l.length := by omega
     have h6 : (0 : Int) ≤ (i : Int) + k := by omega
     have h7 : (i : Int) + k ≤ (i : Int) + k + n := by omega
     have e1 : IntKind.i64.wrap ((i : Int) + k + n) = (i : Int) + k + n := IntWalk.i64_in _ om_
     have e2 : ((i : Int) + k + n).toNat = i + k + n := by omega
     have e3 : ((i : Int) + k).toNat = i + k := by omega
     clear hbad
     go_enter Tryz.func185, Tryz.ntmps185
     go_wp2_with (go_at_call 194; refine (zcB_ l b i _ 58 (.inl rfl) rfl hi hl _ hR hG).mono ?_; rintro e w1 hp; rw [HN.out] at hp; obtain ⟨hg, rfl, hR1⟩ := hp; have f0 := z8_ hR1; have f1 := z0_ hR1; have HX1 := Lib.hid (x6_ hX hg so_); have f2 := z8_ HX1.out; have f3 := z0_ HX1.out)
     go_quiet (fail)
     go_wp2
     go_region_held3 (fun w' => w'.cell? ⟨b, 0, none⟩ = some (.string (bs l)) ∧ w'.cell? ⟨b, 1, none⟩ = some (.int .i64 ((i : Int) + k))) (first | go_keep | (go_split_ands; refine ⟨?_, ?_⟩ <;> exact zee_ as_ hbX)) (fail)
     go_wp2
     go_ret
     refine ⟨gl_, rfl, ?_, v0_ (z3_ HX1.out 2 _) (Ne.symm hbX) _⟩
     rw [show ((i + k + n : Nat) : Int) = (i : Int) + k + n by omega]
     exact z3_ (v0_ hR1 hbX _) 1 _
end Go.Proofs.YtembdkodajichaaGreatDoor
-- TermT
namespace Go.Proofs.YtembdkodajichaaGreatDoor
open Go.RowKit
def gN : Nat := 11
theorem Tryz.gSyntax : Tryz.prog.globalNamed "strconv.ErrSyntax" = some 2 := by kernel_rfl
theorem Tryz.gRange : Tryz.prog.globalNamed "strconv.ErrRange" = some 3 := by kernel_rfl
theorem Tryz.gPow : Tryz.prog.globalNamed "internal/strconv.uint64pow10" = some 1 := by kernel_rfl
theorem zgJ_ {w w' : World} {name : String} {g : Nat} {x : Option (Array Value)} (hg : Tryz.prog.globalNamed name = some g) (hlt : g < gN) (hk : ∀ k, k < gN → w'.heap[k]? = w.heap[k]?)
  (h : w.var? Tryz.prog name = x) : w'.var? Tryz.prog name = x := by
 simp only [World.var?, hg, Option.bind_some, hk g hlt] at h ⊢
 exact h
structure GOk (w : World) : Prop where
 err : GErr w
 pow : Lib.TabIs Tryz.prog w "internal/strconv.uint64pow10" .u64 Lib.pow10Tab
 size : gN ≤ w.heap.size
theorem zi3_ {w w' : World} (h : GOk w) (hk : ∀ k, k < gN → w'.heap[k]? = w.heap[k]?) (hs : w.heap.size ≤ w'.heap.size) : GOk w' := by
 obtain ⟨⟨⟨t1, p1, h1⟩, ⟨t2, p2, h2⟩⟩, h3, h4⟩ := h
 exact ⟨⟨⟨t1, p1, zgJ_ Tryz.gSyntax de_ hk h1⟩, ⟨t2, p2, zgJ_ Tryz.gRange de_ hk h2⟩⟩, zgJ_ Tryz.gPow de_ hk h3, Nat.le_trans h4 hs⟩
theorem za8_ {w w' : World} {rs : List Nat} (h : GOk w) (hg : GL rs w w') (hr : ∀ r ∈ rs, gN ≤ r) : GOk w' :=
 zi3_ h (fun k hk => hg.block k (Nat.lt_of_lt_of_le hk h.size) (fun hm => by have := hr k hm; omega)) hg.size
theorem zcq_ {w w' : World} (h : GOk w) (hb : Below w.heap.size w w') : GOk w' :=
 zi3_ h (fun k hk => hb.block k (Nat.lt_of_lt_of_le hk h.size)) hb.size
theorem zbP_ {w : World} (h : GOk w) (o : Obj) : GOk (w.alloc o) := za8_ (rs := []) h (y2_ (y1_ _ _) o) si_
theorem zdU_ {w : World} (h : GOk w) : GOk w.drew := za8_ (rs := []) h (x9_ (y1_ _ _)) si_
def zdV_ (b : Nat) (l : List UInt8) (i : Nat) (w : World) (o : Option Sh) (e : Ending) (w' : World) : Prop :=
 GL [b] w w' ∧
 match o with
 | none => e = .returned (.tuple #[.agg #[.int .u8 0, .int .i64 0, .string (bs []), .slice none 0 0, .int .i64 0], .bool false]) ∧ ∃ a : Int, v5_ w' b l a
 | some x => ∃ ad n c, e = .returned (.tuple #[.agg #[.int .u8 x.op.toNat, .int .i64 (q6_ x), .string (bs x.text), .slice ad n c, .int .i64 x.deep], .bool true]) ∧ v5_ w' b l (i + x.len : Nat) ∧
  w'.ownsRow w.heap.size 29 1 (.slice ad n c) x.kids.length (x.kids.map fun k => .string (bs k))
def zdE_ (d : Nat) (l : List UInt8) : Prop := ∀ (b i : Nat) (D : Int) (w : World), D = d → i ≤ l.length → gN ≤ b → v5_ w b l i → GOk w →
 Calls Tryz.prog 154 #[.pointer (some ⟨b, 0, none⟩), .int .i64 D] w (zdV_ b l i w (rd d (l.drop i)))
def zeB_ (b X : Nat) (l : List UInt8) (i : Nat) (op n0 : Int) (t : List UInt8) (w : World) (o : Option (List (List UInt8) × Nat × Nat)) (e : Ending) (w' : World) : Prop :=
 GL [b, X] w w' ∧
 match o with
 | none => e = .returned (.bool false) ∧ ∃ a : Int, v5_ w' b l a
 | some (ks, dp, len) => e = .returned (.bool true) ∧ v5_ w' b l (i + len : Nat) ∧ ∃ ad n c, ShAt w' X op n0 t (.slice ad n c) ((dp : Int) + 1) ∧
  w'.ownsRow w.heap.size 29 1 (.slice ad n c) ks.length (ks.map fun k => .string (bs k))
def KLoop (b X : Nat) (l : List UInt8) (i d m : Nat) (op n0 : Int) (t : List UInt8) (w : World) (iv : Value) (wr : World) : Prop :=
 ∃ (k c dp : Nat) (ks : List (List UInt8)) (kv : Value), k ≤ m ∧ iv = .int .i64 k ∧ i + c ≤ l.length ∧ dp ≤ d ∧ ks.length = k ∧ KProg (rd d) l i m k c dp ks ∧
  v5_ wr b l ((i : Int) + c) ∧ ShAt wr X op n0 t kv ((dp : Int) + 1) ∧ wr.ownsRow w.heap.size 29 1 kv k (ks.map fun k => .string (bs k)) ∧ GL [b, X] w wr
theorem zdW_ (l : List UInt8) (d : Nat) (hd : d ≤ 64) (ih : zdE_ d l) (b X i m : Nat) (M D op n0 : Int) (t : List UInt8) (hM : M = m) (hm : m ≤ 32) (hD : D = d + 1) (hi : i ≤ l.length) (hl : l.length ≤ 20000) (w : World) (hR : v5_ w b l i) (hX : ShAt w X op n0 t (.slice none 0 0) 1) (hbX : b ≠ X) (hb : gN ≤ b) (hXg : gN ≤ X) (hG : GOk w) :
  Calls Tryz.prog 195 #[.pointer (some ⟨b, 0, none⟩), .pointer (some ⟨X, 0, none⟩), .int .i64 M, .int .i64 D] w (zeB_ b X l i op n0 t w (w6_ (rd d) m (l.drop i))) := by
 subst hM
 have hD1 : D - 1 = d := by omega
 have HD := Lib.hid hD1
 have hD2 : 1 ≤ D ∧ D ≤ 65 := by omega
 clear hD hD1
 obtain ⟨t0, ht0, ht1, ht2, ht3⟩ := info_parts Tryz.infoTerm
 have HG := Lib.hid hG
 have HR := Lib.hid hR
 have HX := Lib.hid hX
 clear hG hR hX
 go_enter Tryz.func195, Tryz.ntmps195
 go_wp2
 go_loopw [13] (fun iv wr => KLoop b X l i d m op n0 t w iv wr) (fun iv _ => m - (intOf iv).toNat)
 case atStart =>
  exact ⟨0, 0, 0, [], .slice none 0 0, by omega, rfl, by omega, by omega, rfl, zhP_ _ _ _ _, by simpa using HR.out, HX.out, ⟨rfl, Or.inl ⟨rfl, rfl⟩⟩, y1_ _ _⟩
 case round =>
  obtain ⟨k, c, dp, ks, kv, hk, rfl, hic, hdp, hks, hprog, hRr, hXr, hown, hgl⟩ := hrel
  have HKS := Lib.hid hks
  have HP := Lib.hid hprog
  have HXr := Lib.hid hXr
  have HRr := Lib.hid hRr
  have f0 := z8_ hRr
  have f1 := z0_ hRr
  clear hks hprog hXr hRr
  have HGr := Lib.hid (za8_ HG.out hgl so_)
  by_cases hlt : k < m
  · cases hr : rd d (l.drop (i + c)) with
    | none =>
      have HRD := Lib.hid hr
      clear hr
      go_wp2_with (go_at_call 154; refine (ih b (i + c) _ _ HD.out hic hb HRr.out HGr.out).mono ?_; rintro e w1 hp; rw [HRD.out] at hp; obtain ⟨hg1, rfl, a, hR1⟩ := hp)
      go_ret
      rw [zga_ HP.out hlt HRD.out]
      exact ⟨gl_, rfl, a, x3_ hR1 _⟩
    | some x =>
      obtain ⟨hx1, hx2, hx3, hx4, -⟩ := za6_ _ _ _ hr
      rw [List.length_drop] at hx2
      have HRD := Lib.hid hr
      clear hr
      have hneb : some b ≠ kv.ownBlock := v7_ hown HRr.out de_
      have hneX : some X ≠ kv.ownBlock := v7_ hown HXr.out de_
      obtain ⟨kva, kvn, kvc, hkv⟩ := za4_ hown
      subst hkv
      obtain rfl := zbS_ hown
      have j1 : (i : Int) + c ≤ (i : Int) + c + x.len := by omega
      have j2 : (i : Int) + c + x.len ≤ l.length := by omega
      have j3 : (0 : Int) ≤ (i : Int) + c := by omega
      have e1 : ((i : Int) + c).toNat = i + c := by omega
      have e2 : ((i : Int) + c + x.len).toNat = i + c + x.len := by omega
      go_wp2_with (go_at_call 154; refine (ih b (i + c) _ _ HD.out hic hb HRr.out HGr.out).mono ?_; rintro e w1 hp; rw [HRD.out] at hp; obtain ⟨hg1, ya, yn, yc, rfl, hR1, _⟩ := hp)
      have hX1 := x6_ HXr.out hg1 (by simpa using Ne.symm hbX)
      have hown1 := zhO_ hown hg1 (by intro r hr e; simp at hr; subst hr; exact hneb e.symm)
      have hR2 := x3_ hR1 (.cells #[.int .u8 x.op.toNat, .int .i64 (q6_ x), .string (bs x.text), .slice ya yn yc, .int .i64 x.deep] 155)
      have hX2 := x3_ hX1 (.cells #[.int .u8 x.op.toNat, .int .i64 (q6_ x), .string (bs x.text), .slice ya yn yc, .int .i64 x.deep] 155)
      have hY2 := y8_ w1 (.cells #[.int .u8 x.op.toNat, .int .i64 (q6_ x), .string (bs x.text), .slice ya yn yc, .int .i64 x.deep] 155)
      have hown2 := hown1.alloc (.cells #[.int .u8 x.op.toNat, .int .i64 (q6_ x), .string (bs x.text), .slice ya yn yc, .int .i64 x.deep] 155)
      have hgl2 : GL [b, X] w (w1.alloc (.cells #[.int .u8 x.op.toNat, .int .i64 (q6_ x), .string (bs x.text), .slice ya yn yc, .int .i64 x.deep] 155)) := gl_
      have hXY : X ≠ w1.heap.size := by have := z4_ hX1; omega
      have hYw : w.heap.size ≤ w1.heap.size := by have := hg1.size; have := hgl.size; omega
      generalize w1.alloc (.cells #[.int .u8 x.op.toNat, .int .i64 (q6_ x), .string (bs x.text), .slice ya yn yc, .int .i64 x.deep] 155) = w2 at *
      clear hR1 hX1 hown1 hg1
      generalize w1.heap.size = Y at *
      have hneY : some Y ≠ (Value.slice kva kvn kvc).ownBlock := v7_ hown2 hY2 de_
      have g0 := z8_ hR2
      have g1 := z0_ hR2
      have g2 := z8_ hX2
      have g3 := z0_ hX2
      have hlb := z4_ hR2
      have hlX := z4_ hX2
      obtain ⟨gg, cap4, w4, hrun, hown4, hgr4, hat, hlt4⟩ := run_append_lies (P := Tryz.prog) (w := (w2.alloc (.cells #[.string (bs ((l.drop (i + c)).take x.len))] 29)).drew) 96 96 w.heap.size 29 t0 _ 1 16 Tryz.underlying96 ht0 ht1 ht2 ht3 rfl om_ (.slice kva kvn kvc) kvn _ ((hown2.alloc _).drew) ⟨w2.heap.size, 0, none⟩ 1 1 [.string (bs ((l.drop (i + c)).take x.len))] rfl (World.news_of_block (cs := #[.string (bs ((l.drop (i + c)).take x.len))]) (t := 29) (fr := (0, 0)) (heap_alloc_new w2 _)) (by simp [Value.oneCell']) om_ (by unfold maxLen; omega) om_ (by simp; have := hgl2.size; omega) (w2.heap.size + 1) si_
      have Hq := Lib.hid (zaR_ (w := (w2.alloc (.cells #[.string (bs ((l.drop (i + c)).take x.len))] 29)).drew) (x3_ hX2 _) hgr4 hneX)
      have HY := Lib.hid (v0_ (zaR_ (w := (w2.alloc (.cells #[.string (bs ((l.drop (i + c)).take x.len))] 29)).drew) (x3_ hY2 _) hgr4 hneY) (p := ⟨X, 3, none⟩) (Ne.symm hXY) (.slice (some ⟨gg, 0, none⟩) (kvn + 1) cap4))
      have Hq3 := Lib.hid (z3_ Hq.out 3 (.slice (some ⟨gg, 0, none⟩) (kvn + 1) cap4))
      have f6 := z8_ Hq.out
      have f7 := z0_ Hq.out
      have HX2 := Lib.hid hX2
      have HR2 := Lib.hid hR2
      have HY2 := Lib.hid hY2
      clear hX2 hR2 hY2
      simp [go_sem] at hrun
      go_upto_region 7 with fail
      go_cut [] (fun wx => wx = w4.setCell ⟨X, 3, none⟩ (.slice (some ⟨gg, 0, none⟩) (kvn + 1) cap4))
      case first =>
       go_region
       all_goals (go_wp2_with fail; go_meet; rfl)
      case rest =>
      obtain rfl := hcut
      clear f6 f7 g0 g1 g2 g3
      have f6 := z8_ Hq3.out
      have f7 := z0_ Hq3.out
      have f8 := z8_ HY.out
      have f9 := z0_ HY.out
      clear hrun
      go_wp2_with fail
      go_region
      go_wp2
      have hge := zk5_ hown2
      have h4X := v7_ hown4 Hq.out de_
      refine ⟨⟨kvn + 1, c + x.len, max dp x.deep, ks ++ [(l.drop (i + c)).take x.len], .slice (some ⟨gg, 0, none⟩) (kvn + 1) cap4, by omega, by simp, by omega, by omega, by simp [HKS.out], zhQ_ HP.out hlt HRD.out, ?_, ?_, ?_, ?_⟩, by simp [intOf]; omega⟩
      · have h := v0_ (v0_ (zaR_ (w := (w2.alloc (.cells #[.string (bs ((l.drop (i + c)).take x.len))] 29)).drew) (x3_ HR2.out _) hgr4 hneb) (p := ⟨X, 3, none⟩) hbX (.slice (some ⟨gg, 0, none⟩) (kvn + 1) cap4)) (p := ⟨X, 4, none⟩) hbX (.int .i64 (max (dp : Int) x.deep + 1))
        rw [show (i : Int) + ((c + x.len : Nat) : Int) = ((i + c + x.len : Nat) : Int) by omega]
        exact h
      · have h := z3_ Hq3.out 4 (.int .i64 (max (dp : Int) x.deep + 1))
        rw [show ((max dp x.deep : Nat) : Int) + 1 = max (dp : Int) x.deep + 1 by omega]
        exact h
      · rw [List.map_append]
        exact (v3_ (v3_ hown4 (p := ⟨X, 3, none⟩) h4X _) (p := ⟨X, 4, none⟩) h4X _).drew
      · have hgl4 : GL [b, X] w w4 := zcu_ hgr4 gl_ (fun r hr => .inr (hge r hr))
        exact gl_
  · obtain rfl : k = m := by omega
    go_wp2
    go_ret
    obtain ⟨kva, kvn, kvc, hkv⟩ := za4_ hown
    subst hkv
    rw [zgb_ HP.out]
    refine ⟨hgl, rfl, ?_, kva, kvn, kvc, HXr.out, ?_⟩
    · rw [show ((i + c : Nat) : Int) = (i : Int) + c by omega]
      exact HRr.out
    · rw [HKS.out]; exact hown
end Go.Proofs.YtembdkodajichaaGreatDoor
-- TermU
namespace Go.Proofs.YtembdkodajichaaGreatDoor
open Go.RowKit
theorem zgK_ (c : UInt8) (r : List UInt8) (w : World) :
  Calls Tryz.prog 189 #[.string (bs (c :: r))] w fun e w' => e = .returned (.bool (pubC c)) ∧ w = w' := by
 have H := Lib.hid (zgg_ c)
 have hr0 : (0 : Int) ≤ (r.length : Int) := by omega
 go_enter Tryz.func189, Tryz.ntmps189
 go_wp2
 all_goals
  go_ret
  refine ⟨?_, rfl⟩
  rw [H.out]
  (refine congrArg (fun b : Bool => Ending.returned (.bool b)) ?_; rw [Bool.eq_iff_iff]; simp only [beq_iff_eq, beq_eq_false_iff_ne, bne_iff_ne, bne_eq_false_iff_eq, ne_eq, Bool.or_eq_true, Bool.and_eq_true, Bool.not_eq_true', decide_eq_true_eq, decide_eq_false_iff_not, Bool.or_eq_false_iff, Bool.and_eq_false_iff, eq_self, true_iff, iff_true, Bool.false_eq_true, Bool.true_eq_false, false_iff, iff_false] at *; omega)
theorem zi4_ (op : UInt8) (n dp : Int) (t : List UInt8) (ad : Option Addr) (kn kc : Nat) (ks : List (List UInt8))
  (h1 : op.toNat ≠ 80) (h2 : op.toNat ≠ 88) (h3 : op.toNat ≠ 87) (h4 : op.toNat ≠ 76) (w : World) :
  Calls Tryz.prog 177 #[.agg #[.int .u8 op.toNat, .int .i64 n, .string (bs t), .slice ad kn kc, .int .i64 dp]] w fun e w' =>
   e = .returned (.bool (v1_ op ks)) ∧ Below w.heap.size w w' := by
 have H : v1_ op ks = true := by
  simp only [v1_, ← UInt8.toNat_inj, UInt8.reduceToNat]
  rw [if_neg h1, if_neg h2, if_neg h3, if_neg h4]
 rw [H]; clear H
 go_enter Tryz.func177, Tryz.ntmps177
 go_wp2
 go_ret
 exact ⟨rfl, bl_⟩
theorem zn5_ (op : UInt8) (n dp : Int) (t : List UInt8) (g kn kc : Nat) (c : UInt8) (r : List UInt8) (ks : List (List UInt8))
  (h1 : op.toNat = 80 ∨ op.toNat = 76) (w : World) (hn : 1 ≤ kn) (hc : w.cell? ⟨g, 0, none⟩ = some (.string (bs (c :: r)))) (hg : g < w.heap.size) :
  Calls Tryz.prog 177 #[.agg #[.int .u8 op.toNat, .int .i64 n, .string (bs t), .slice (some ⟨g, 0, none⟩) kn kc, .int .i64 dp]] w fun e w' =>
   e = .returned (.bool (v1_ op ((c :: r) :: ks))) ∧ Below w.heap.size w w' := by
 have H : Hid (v1_ op ((c :: r) :: ks) = if op.toNat = 80 then decide (c.toNat ≠ 86 ∧ c.toNat ≠ 75) else pubC c) := by
  show v1_ _ _ = _
  simp only [v1_, ← UInt8.toNat_inj, UInt8.reduceToNat, List.getD_cons_zero, head, List.headD_cons]
  rcases h1 with h | h <;> simp [h]
  rw [Bool.eq_iff_iff]; simp [← UInt8.toNat_inj]
 have hr0 : (0 : Int) ≤ (r.length : Int) := by omega
 rcases h1 with h | h
 all_goals
  go_enter Tryz.func177, Tryz.ntmps177
  go_wp2_with (go_at_call 189; refine (zgK_ _ _ _).mono ?_; rintro e w1 ⟨rfl, rfl⟩)
  all_goals
   go_ret
   refine ⟨?_, bl_⟩
   rw [H.out]
   first | (rw [if_pos h]; (refine congrArg (fun b : Bool => Ending.returned (.bool b)) ?_; rw [Bool.eq_iff_iff]; simp only [beq_iff_eq, beq_eq_false_iff_ne, bne_iff_ne, bne_eq_false_iff_eq, ne_eq, Bool.or_eq_true, Bool.and_eq_true, Bool.not_eq_true', decide_eq_true_eq, decide_eq_false_iff_not, Bool.or_eq_false_iff, Bool.and_eq_false_iff, eq_self, true_iff, iff_true, Bool.false_eq_true, Bool.true_eq_false, false_iff, iff_false] at *; omega)) | (rw [if_neg om_]; rfl)
theorem zn6_ (op : UInt8) (n dp : Int) (t : List UInt8) (g kn kc : Nat) (c c' : UInt8) (r r' : List UInt8) (ks : List (List UInt8))
  (h1 : op.toNat = 88 ∨ op.toNat = 87) (w : World) (hn : 2 ≤ kn) (hc : w.cell? ⟨g, 0, none⟩ = some (.string (bs (c :: r)))) (hc' : w.cell? ⟨g, 1, none⟩ = some (.string (bs (c' :: r')))) (hg : g < w.heap.size) :
  Calls Tryz.prog 177 #[.agg #[.int .u8 op.toNat, .int .i64 n, .string (bs t), .slice (some ⟨g, 0, none⟩) kn kc, .int .i64 dp]] w fun e w' =>
   e = .returned (.bool (v1_ op ((c :: r) :: (c' :: r') :: ks))) ∧ Below w.heap.size w w' := by
 have H : Hid (v1_ op ((c :: r) :: (c' :: r') :: ks) = if op.toNat = 88 then leB (c :: r) (c' :: r') else pubC c && pubC c') := by
  show v1_ _ _ = _
  simp only [v1_, ← UInt8.toNat_inj, UInt8.reduceToNat, List.getD_cons_zero, List.getD_cons_succ, head, List.headD_cons]
  rcases h1 with h | h <;> simp [h]
 have hr0 : (0 : Int) ≤ (r.length : Int) := by omega
 have hr1 : (0 : Int) ≤ (r'.length : Int) := by omega
 rcases h1 with h | h
 · have k0 : (0 : Int) < (kn : Int) := by omega
   have k1 : (1 : Int) < (kn : Int) := by omega
   go_enter Tryz.func177, Tryz.ntmps177
   go_wp2
   go_quiet (fail)
   go_wp2
   go_ret
   refine ⟨?_, bl_⟩
   rw [H.out, if_pos h]
   rfl
 · cases hp : pubC c
   all_goals
    have Hp := Lib.hid hp
    clear hp
    go_enter Tryz.func177, Tryz.ntmps177
    go_wp2_with fail
    refine (zgK_ _ _ _).mono ?_
    rintro e w1 ⟨rfl, rfl⟩
    rw [Hp.out]
    go_wp2_with (go_at_call 189; refine (zgK_ _ _ _).mono ?_; rintro e w1 ⟨rfl, rfl⟩)
    go_ret
    refine ⟨?_, bl_⟩
    rw [H.out, if_neg om_, Hp.out]
    rfl
theorem zn7_ (op : UInt8) (n dp : Int) (t : List UInt8) (ad : Option Addr) (kn kc : Nat) (ks : List (List UInt8)) (m : Nat) (hm : ks.length = m) (hcnt : ∃ r k, cnt op r = some (m, k)) (hne : ∀ k ∈ ks, k ≠ []) (w : World) (base : Nat)
  (hown : w.ownsRow base 29 1 (.slice ad kn kc) m (ks.map fun k => .string (bs k))) :
  Calls Tryz.prog 177 #[.agg #[.int .u8 op.toNat, .int .i64 n, .string (bs t), .slice ad kn kc, .int .i64 dp]] w fun e w' =>
   e = .returned (.bool (v1_ op ks)) ∧ Below w.heap.size w w' := by
 by_cases hA : op.toNat = 80 ∨ op.toNat = 76 ∨ op.toNat = 88 ∨ op.toNat = 87
 · have hm1 : (op.toNat = 80 → m = 1) ∧ (op.toNat ≠ 80 → m = 2) := by
    obtain ⟨r, k, hcnt⟩ := hcnt
    simp only [cnt, arity, ← UInt8.toNat_inj, UInt8.reduceToNat] at hcnt
    rw [if_neg om_] at hcnt
    split at hcnt
    · simp at hcnt; omega
    · rw [if_pos om_] at hcnt; simp at hcnt; omega
   obtain ⟨g, cap, hv, hg, hgw, hcap, hcap2, hcell⟩ := zbv_ hown om_
   injection hv with hv1 hv2 hv3
   subst hv1 hv2 hv3
   match ks, hm, hne with
   | [], hm, _ => simp at hm; omega
   | [] :: _, _, hne => exact absurd rfl (hne [] si_)
   | (c :: r) :: ks', hm, hne =>
     have c0 := hcell 0 (.string (bs (c :: r))) si_
     by_cases hB : op.toNat = 80 ∨ op.toNat = 76
     · exact zn5_ op n dp t g kn kc c r ks' hB w om_ c0 hgw
     · match ks', hm, hne with
       | [], hm, _ => simp at hm; omega
       | [] :: _, _, hne => exact absurd rfl (hne [] si_)
       | (c' :: r') :: ks'', hm, hne =>
         have c1 := hcell 1 (.string (bs (c' :: r'))) si_
         exact zn6_ op n dp t g kn kc c c' r r' ks'' om_ w om_ c0 c1 hgw
 · exact zi4_ op n dp t ad kn kc ks om_ om_ om_ om_ w
/-! How the rest is read. -/
def zcU_ (c : Nat) : Option Nat :=
 if c = 110 then some 184 else if c = 116 then some 185 else if c = 84 then some 186
 else if c = 80 ∨ c = 72 then some 187
 else if c = 83 ∨ c = 66 ∨ c = 88 ∨ c = 68 ∨ c = 86 ∨ c = 87 ∨ c = 75 ∨ c = 76 then some 188 else none
def zeC_ (p : Option Addr) : Option Nat → Value
 | some f => .func (.func f) #[.pointer p] #[]
 | none => .nilFunc
theorem zft_ (p : Option Addr) (c : UInt8) (w : World) :
  Calls Tryz.prog 176 #[.pointer p, .int .u8 c.toNat] w fun e w' =>
   e = .returned (zeC_ p (zcU_ c.toNat)) ∧ w = w' := by
 have hmf : ∀ (fn : Fn) (first cap : Array Value) (w : World), (Instr.makeFunc fn first cap).run Tryz.prog w = .ok (.func fn first cap) w := fun _ _ _ _ => rfl
 have H : Hid (∀ n, zcU_ n = if n = 110 then some 184 else if n = 116 then some 185 else if n = 84 then some 186
  else if n = 80 ∨ n = 72 then some 187
  else if n = 83 ∨ n = 66 ∨ n = 88 ∨ n = 68 ∨ n = 86 ∨ n = 87 ∨ n = 75 ∨ n = 76 then some 188 else none) := fun _ => rfl
 go_enter Tryz.func176, Tryz.ntmps176
 go_wp2
 all_goals
  go_ret
  refine ⟨?_, rfl⟩
  simp only [beq_iff_eq, beq_eq_false_iff_ne, ne_eq] at *
  rw [H.out]
  repeat (first | rw [if_pos om_] | rw [if_neg om_])
  rfl
end Go.Proofs.YtembdkodajichaaGreatDoor
-- TermV
namespace Go.Proofs.YtembdkodajichaaGreatDoor
open Go.RowKit
theorem tOne (l : List UInt8) (d : Nat) (hd : d ≤ 64) (ih : zdE_ d l) (b X i : Nat) (D op n0 : Int) (t : List UInt8) (hD : D = d + 1) (hi : i ≤ l.length) (hl : l.length ≤ 20000) (w : World) (hR : v5_ w b l i) (hX : ShAt w X op n0 t (.slice none 0 0) 1) (hbX : b ≠ X) (hb : gN ≤ b) (hXg : gN ≤ X) (hG : GOk w) :
  Calls Tryz.prog 187 #[.pointer (some ⟨b, 0, none⟩), .pointer (some ⟨X, 0, none⟩), .int .i64 D] w (zeB_ b X l i op n0 t w (w6_ (rd d) 1 (l.drop i))) := by
 have HD := Lib.hid hD
 clear hD
 cases hk : w6_ (rd d) 1 (l.drop i) with
 | none =>
   have HK := Lib.hid hk
   clear hk
   go_enter Tryz.func187, Tryz.ntmps187
   go_wp2_with (go_at_call 195; refine (zdW_ l d hd ih b X i 1 _ _ op n0 t rfl om_ HD.out hi hl _ hR hX hbX hb hXg hG).mono ?_; rintro e w1 hp; rw [HK.out] at hp; obtain ⟨hg, rfl, hp⟩ := hp)
   go_ret
   exact ⟨hg, rfl, hp⟩
 | some y =>
   have HK := Lib.hid hk
   clear hk
   go_enter Tryz.func187, Tryz.ntmps187
   go_wp2_with (go_at_call 195; refine (zdW_ l d hd ih b X i 1 _ _ op n0 t rfl om_ HD.out hi hl _ hR hX hbX hb hXg hG).mono ?_; rintro e w1 hp; rw [HK.out] at hp; obtain ⟨hg, rfl, hp⟩ := hp)
   go_ret
   exact ⟨hg, rfl, hp⟩
theorem tTwo (l : List UInt8) (d : Nat) (hd : d ≤ 64) (ih : zdE_ d l) (b X i : Nat) (D op n0 : Int) (t : List UInt8) (hD : D = d + 1) (hi : i ≤ l.length) (hl : l.length ≤ 20000) (w : World) (hR : v5_ w b l i) (hX : ShAt w X op n0 t (.slice none 0 0) 1) (hbX : b ≠ X) (hb : gN ≤ b) (hXg : gN ≤ X) (hG : GOk w) :
  Calls Tryz.prog 188 #[.pointer (some ⟨b, 0, none⟩), .pointer (some ⟨X, 0, none⟩), .int .i64 D] w (zeB_ b X l i op n0 t w (w6_ (rd d) 2 (l.drop i))) := by
 have HD := Lib.hid hD
 clear hD
 cases hk : w6_ (rd d) 2 (l.drop i) with
 | none =>
   have HK := Lib.hid hk
   clear hk
   go_enter Tryz.func188, Tryz.ntmps188
   go_wp2_with (go_at_call 195; refine (zdW_ l d hd ih b X i 2 _ _ op n0 t rfl om_ HD.out hi hl _ hR hX hbX hb hXg hG).mono ?_; rintro e w1 hp; rw [HK.out] at hp; obtain ⟨hg, rfl, hp⟩ := hp)
   go_ret
   exact ⟨hg, rfl, hp⟩
 | some y =>
   have HK := Lib.hid hk
   clear hk
   go_enter Tryz.func188, Tryz.ntmps188
   go_wp2_with (go_at_call 195; refine (zdW_ l d hd ih b X i 2 _ _ op n0 t rfl om_ HD.out hi hl _ hR hX hbX hb hXg hG).mono ?_; rintro e w1 hp; rw [HK.out] at hp; obtain ⟨hg, rfl, hp⟩ := hp)
   go_ret
   exact ⟨hg, rfl, hp⟩
def tupK (d : Nat) (l : List UInt8) : Option (List (List UInt8) × Nat × Nat) :=
 match cnt 84 l with
 | none => none
 | some (m, k) => match w6_ (rd d) m (l.drop k) with | none => none | some (ks, dp, len) => some (ks, dp, k + len)
theorem zfu_ (l : List UInt8) : cnt 84 l = match num 58 l with | none => none | some (n, k) => if 32 < n then none else some (n, k) := by
 unfold cnt; rw [if_pos rfl]; rfl
theorem zoa_ (l : List UInt8) (d : Nat) (hd : d ≤ 64) (ih : zdE_ d l) (b X i : Nat) (D op n0 : Int) (t : List UInt8) (hD : D = d + 1) (hi : i ≤ l.length) (hl : l.length ≤ 20000) (w : World) (hR : v5_ w b l i) (hX : ShAt w X op n0 t (.slice none 0 0) 1) (hbX : b ≠ X) (hb : gN ≤ b) (hXg : gN ≤ X) (hG : GOk w) :
  Calls Tryz.prog 186 #[.pointer (some ⟨b, 0, none⟩), .pointer (some ⟨X, 0, none⟩), .int .i64 D] w (zeB_ b X l i op n0 t w (tupK d (l.drop i))) := by
 have HD := Lib.hid hD
 clear hD
 cases hn : num 58 (l.drop i) with
 | none =>
   have HT : Hid (tupK d (l.drop i) = none) := by show tupK d (l.drop i) = none; simp [tupK, zfu_, hn]
   rw [HT.out]
   have HN := Lib.hid hn
   clear hn
   go_enter Tryz.func186, Tryz.ntmps186
   go_wp2_with (go_at_call 194; refine (zcB_ l b i _ 58 (.inl rfl) rfl hi hl _ hR hG.err).mono ?_; rintro e w1 hp; rw [HN.out] at hp; obtain ⟨hg, v, a, rfl, hR1⟩ := hp)
   go_ret
   exact ⟨gl_, rfl, a, hR1⟩
 | some y =>
   obtain ⟨n, k⟩ := y
   obtain ⟨hk2, hkl, hnb⟩ := zcl_ hn
   rw [List.length_drop] at hkl
   have HN := Lib.hid hn
   by_cases h32 : 32 < n
   · have HT : Hid (tupK d (l.drop i) = none) := by show tupK d (l.drop i) = none; simp [tupK, zfu_, hn, h32]
     rw [HT.out]
     clear hn
     have h33 : (32 : Int) < (n : Int) := by omega
     go_enter Tryz.func186, Tryz.ntmps186
     go_wp2_with (go_at_call 194; refine (zcB_ l b i _ 58 (.inl rfl) rfl hi hl _ hR hG.err).mono ?_; rintro e w1 hp; rw [HN.out] at hp; obtain ⟨hg, rfl, hR1⟩ := hp)
     go_ret
     exact ⟨gl_, rfl, _, hR1⟩
   · have h33 : (n : Int) ≤ 32 := by omega
     have hik : i + k ≤ l.length := by omega
     cases hkb : w6_ (rd d) n (l.drop (i + k)) with
     | none =>
       have HT : Hid (tupK d (l.drop i) = none) := by show tupK d (l.drop i) = none; simp [tupK, zfu_, hn, h32, hkb]
       rw [HT.out]
       have HK := Lib.hid hkb
       clear hn hkb
       go_enter Tryz.func186, Tryz.ntmps186
       go_wp2_with (first | (go_at_call 194; refine (zcB_ l b i _ 58 (.inl rfl) rfl hi hl _ hR hG.err).mono ?_; rintro e w1 hp; rw [HN.out] at hp; obtain ⟨hg, rfl, hR1⟩ := hp; have HX1 := Lib.hid (x6_ hX hg so_); have HR1 := Lib.hid hR1; clear hR1; have HG1 := Lib.hid (za8_ hG hg so_)) | (go_at_call 195; go_must (refine (zdW_ l d hd ih b X (i + k) n _ _ op n0 t rfl om_ HD.out hik hl _ HR1.out HX1.out hbX hb hXg HG1.out).mono ?_); rintro e w2 hp; rw [HK.out] at hp; obtain ⟨hg2, rfl, hp⟩ := hp))
       go_ret
       exact ⟨gl_, rfl, hp⟩
     | some z =>
       obtain ⟨ks, dp, len⟩ := z
       have HT : Hid (tupK d (l.drop i) = some (ks, dp, k + len)) := by show tupK d (l.drop i) = _; simp [tupK, zfu_, hn, h32, hkb]
       rw [HT.out]
       have HK := Lib.hid hkb
       clear hn hkb
       go_enter Tryz.func186, Tryz.ntmps186
       go_wp2_with (first | (go_at_call 194; refine (zcB_ l b i _ 58 (.inl rfl) rfl hi hl _ hR hG.err).mono ?_; rintro e w1 hp; rw [HN.out] at hp; obtain ⟨hg, rfl, hR1⟩ := hp; have HX1 := Lib.hid (x6_ hX hg so_); have HR1 := Lib.hid hR1; clear hR1; have HG1 := Lib.hid (za8_ hG hg so_)) | (go_at_call 195; go_must (refine (zdW_ l d hd ih b X (i + k) n _ _ op n0 t rfl om_ HD.out hik hl _ HR1.out HX1.out hbX hb hXg HG1.out).mono ?_); rintro e w2 hp; rw [HK.out] at hp; obtain ⟨hg2, rfl, hp⟩ := hp))
       go_ret
       obtain ⟨h1, ad, kn, kc, h2, h3⟩ := hp
       refine ⟨gl_, rfl, ?_, ad, kn, kc, h2, zdv_ h3 hg.size⟩
       rw [show i + (k + len) = i + k + len by omega]
       exact h1
def zbZ_ (d : Nat) (c : UInt8) (r : List UInt8) : Option Sh :=
 if c.toNat = 110 then (num 59 r).map fun (n, k) => ⟨c, 1 + k, 1, n, [], []⟩
 else if c.toNat = 116 then (zbO_ r).map fun (n, k) => ⟨c, 1 + k + n, 1, n, (r.drop k).take n, []⟩
 else match cnt c r with
  | none => none
  | some (m, k) => match w6_ (rd d) m (r.drop k) with
    | none => none
    | some (ks, dp, len) => some ⟨c, 1 + k + len, dp + 1, 0, [], ks⟩
theorem zob_ (d : Nat) (c : UInt8) (r : List UInt8) : rd (d + 1) (c :: r) = match zbZ_ d c r with | none => none | some y => if v1_ c y.kids = true then some y else none := by
 simp only [rd, zbZ_, ← UInt8.toNat_inj, UInt8.reduceToNat, zbO_]
 by_cases h1 : c.toNat = 110
 · have hf : ∀ ks, v1_ c ks = true := fun ks => by simp [v1_, ← UInt8.toNat_inj, h1]
   simp only [if_pos h1]
   cases num 59 r <;> simp [hf]
 · simp only [if_neg h1]
   by_cases h2 : c.toNat = 116
   · have hf : ∀ ks, v1_ c ks = true := fun ks => by simp [v1_, ← UInt8.toNat_inj, h2]
     simp only [if_pos h2]
     cases num 58 r with
     | none => rfl
     | some y =>
       obtain ⟨n, k⟩ := y
       simp only []
       split <;> simp [hf]
   · simp only [if_neg h2]
     cases cnt c r with
     | none => rfl
     | some y =>
       obtain ⟨m, k⟩ := y
       simp only []
       cases w6_ (rd d) m (r.drop k) with
       | none => rfl
       | some z => rfl
def zi5_ (b X : Nat) (l : List UInt8) (i : Nat) (op : Int) (w : World) (o : Option Sh) (e : Ending) (w' : World) : Prop :=
 GL [b, X] w w' ∧
 match o with
 | none => e = .returned (.bool false) ∧ ∃ a : Int, v5_ w' b l a
 | some y => e = .returned (.bool true) ∧ v5_ w' b l (i + y.len : Nat) ∧ ∃ ad kn kc, ShAt w' X op (q6_ y) y.text (.slice ad kn kc) y.deep ∧
  w'.ownsRow w.heap.size 29 1 (.slice ad kn kc) y.kids.length (y.kids.map fun k => .string (bs k))
theorem zgL_ {b X : Nat} {l : List UInt8} {i : Nat} {c : UInt8} {d : Nat} {w w' : World} {e : Ending} {o : Option (List (List UInt8) × Nat × Nat)} (h1 : c.toNat ≠ 110) (h2 : c.toNat ≠ 116)
  (ho : o = match cnt c (l.drop (i + 1)) with | none => none | some (m, k) => match w6_ (rd d) m ((l.drop (i + 1)).drop k) with | none => none | some (ks, dp, len) => some (ks, dp, k + len))
  (h : zeB_ b X l (i + 1) c.toNat 0 [] w o e w') : zi5_ b X l i c.toNat w (zbZ_ d c (l.drop (i + 1))) e w' := by
 obtain ⟨hg, h⟩ := h
 refine ⟨hg, ?_⟩
 simp only [zbZ_, if_neg h1, if_neg h2]
 cases hc : cnt c (l.drop (i + 1)) with
 | none =>
   simp only [hc] at ho
   subst ho
   exact h
 | some y =>
   obtain ⟨m, k⟩ := y
   simp only [hc] at ho
   cases hk : w6_ (rd d) m ((l.drop (i + 1)).drop k) with
   | none =>
     simp only [hk] at ho
     subst ho
     simp only [hk]
     exact h
   | some z =>
     obtain ⟨ks, dp, len⟩ := z
     simp only [hk] at ho
     subst ho
     obtain ⟨h3, h4, ad, kn, kc, h5, h6⟩ := h
     simp only [hk]
     refine ⟨h3, ?_, ad, kn, kc, ?_, h6⟩
     · rw [show i + (1 + k + len) = i + 1 + (k + len) by omega]; exact h4
     · have : q6_ (⟨c, 1 + k + len, dp + 1, 0, [], ks⟩ : Sh) = 0 := by simp [q6_]
       rw [this]
       exact h5
theorem zgM_ (l : List UInt8) (d : Nat) (hd : d ≤ 64) (ih : zdE_ d l) (b X i : Nat) (c : UInt8) (f : Nat) (hf : zcU_ c.toNat = some f) (D : Int) (hD : D = d + 1) (hi : i + 1 ≤ l.length) (hl : l.length ≤ 20000) (w : World) (hR : v5_ w b l (i + 1 : Nat)) (hX : ShAt w X c.toNat 0 [] (.slice none 0 0) 1) (hbX : b ≠ X) (hb : gN ≤ b) (hXg : gN ≤ X) (hG : GOk w) :
  Calls Tryz.prog f #[.pointer (some ⟨b, 0, none⟩), .pointer (some ⟨X, 0, none⟩), .int .i64 D] w (zi5_ b X l i c.toNat w (zbZ_ d c (l.drop (i + 1)))) := by
 have harity : c.toNat ≠ 84 → cnt c (l.drop (i + 1)) = (arity c).map fun n => (n, 0) := by
  intro h
  simp only [cnt, ← UInt8.toNat_inj, UInt8.reduceToNat]
  rw [if_neg h]
 simp only [zcU_] at hf
 split at hf
 · rename_i h1
   simp only [Option.some.injEq] at hf
   subst hf
   refine (zn2_ l b X (i + 1) D c.toNat 0 [] (.slice none 0 0) 1 hi hl w hR hX hbX hG.err).mono fun e w' hp => ?_
   obtain ⟨hg, hp⟩ := hp
   refine ⟨hg, ?_⟩
   simp only [zbZ_, if_pos h1]
   cases hn : num 59 (l.drop (i + 1)) with
   | none => rw [hn] at hp; exact hp
   | some y =>
     obtain ⟨n, k⟩ := y
     rw [hn] at hp
     obtain ⟨h3, h4, h5⟩ := hp
     refine ⟨h3, ?_, none, 0, 0, ?_, ⟨rfl, Or.inl ⟨rfl, rfl⟩⟩⟩
     · rw [show i + (1 + k) = i + 1 + k by omega]; exact h4
     · have : q6_ (⟨c, 1 + k, 1, n, [], []⟩ : Sh) = n := by simp [q6_, h1]
       rw [this]; exact h5
 · rename_i h1
   split at hf
   · rename_i h2
     simp only [Option.some.injEq] at hf
     subst hf
     refine (zn4_ l b X (i + 1) D c.toNat 0 [] (.slice none 0 0) 1 hi hl w hR hX hbX hG.err).mono fun e w' hp => ?_
     obtain ⟨hg, hp⟩ := hp
     refine ⟨hg, ?_⟩
     simp only [zbZ_, if_neg h1, if_pos h2]
     cases hn : zbO_ (l.drop (i + 1)) with
     | none => rw [hn] at hp; exact hp
     | some y =>
       obtain ⟨n, k⟩ := y
       rw [hn] at hp
       obtain ⟨h3, h4, h5⟩ := hp
       refine ⟨h3, ?_, none, 0, 0, ?_, ⟨rfl, Or.inl ⟨rfl, rfl⟩⟩⟩
       · rw [show i + (1 + k + n) = i + 1 + k + n by omega]; exact h4
       · have : q6_ (⟨c, 1 + k + n, 1, n, ((l.drop (i + 1)).drop k).take n, []⟩ : Sh) = 0 := by simp [q6_, h1]
         rw [this]
         rw [← List.drop_drop] at h5
         exact h5
   · rename_i h2
     split at hf
     · rename_i h3
       simp only [Option.some.injEq] at hf
       subst hf
       have hc : c = 84 := by rw [← UInt8.toNat_inj]; exact h3
       refine (zoa_ l d hd ih b X (i + 1) D c.toNat 0 [] hD hi hl w hR hX hbX hb hXg hG).mono fun e w' hp => ?_
       refine zgL_ h1 h2 ?_ hp
       rw [hc]; rfl
     · rename_i h3
       split at hf
       · rename_i h4
         simp only [Option.some.injEq] at hf
         subst hf
         refine (tOne l d hd ih b X (i + 1) D c.toNat 0 [] hD hi hl w hR hX hbX hb hXg hG).mono fun e w' hp => ?_
         refine zgL_ h1 h2 ?_ hp
         rw [harity h3, show arity c = some 1 by simp only [arity, ← UInt8.toNat_inj, UInt8.reduceToNat]; rw [if_pos h4]]
         simp only [Option.map_some, List.drop_zero]
         cases w6_ (rd d) 1 (l.drop (i + 1)) with
         | none => rfl
         | some z => simp
       · rename_i h4
         split at hf
         · rename_i h5
           simp only [Option.some.injEq] at hf
           subst hf
           refine (tTwo l d hd ih b X (i + 1) D c.toNat 0 [] hD hi hl w hR hX hbX hb hXg hG).mono fun e w' hp => ?_
           refine zgL_ h1 h2 ?_ hp
           rw [harity h3, show arity c = some 2 by simp only [arity, ← UInt8.toNat_inj, UInt8.reduceToNat]; rw [if_neg h4, if_pos h5]]
           simp only [Option.map_some, List.drop_zero]
           cases w6_ (rd d) 2 (l.drop (i + 1)) with
           | none => rfl
           | some z => simp
         · simp at hf
theorem zoc_ {c : UInt8} (h : zcU_ c.toNat = none) (d : Nat) (r : List UInt8) : zbZ_ d c r = none := by
 simp only [zcU_] at h
 split at h
 · simp at h
 · rename_i h1
   split at h
   · simp at h
   · rename_i h2
     split at h
     · simp at h
     · rename_i h3
       split at h
       · simp at h
       · rename_i h4
         split at h
         · simp at h
         · rename_i h5
           simp only [zbZ_, if_neg h1, if_neg h2]
           have : cnt c r = none := by
            simp only [cnt, arity, ← UInt8.toNat_inj, UInt8.reduceToNat]
            rw [if_neg h3, if_neg h4, if_neg h5]; rfl
           rw [this]
end Go.Proofs.YtembdkodajichaaGreatDoor
-- TermW
namespace Go.Proofs.YtembdkodajichaaGreatDoor
open Go.RowKit
theorem zi6_ (l : List UInt8) (b i : Nat) (D : Int) (hl : l.length ≤ 20000) (w : World) (hR : v5_ w b l i) (h : i = l.length ∨ i < l.length ∧ D = 0) :
  Calls Tryz.prog 154 #[.pointer (some ⟨b, 0, none⟩), .int .i64 D] w (zdV_ b l i w none) := by
 have f0 := z0_ hR
 have f1 := z8_ hR
 have hlb := z4_ hR
 have HR := Lib.hid hR
 clear hR
 have fin : ∀ w', GL [b] w w' → v5_ w' b l i → zdV_ b l i w none (.returned (.tuple #[.agg #[.int .u8 0, .int .i64 0, .string (bs []), .slice none 0 0, .int .i64 0], .bool false])) w' := fun w' h1 h2 => ⟨h1, rfl, i, h2⟩
 have HF := Lib.hid fin
 clear fin
 rcases h with h | ⟨h, h2⟩
 · have d1 : ((i : Int) == (l.length : Int)) = true := by simp; omega
   clear h
   go_enter Tryz.func154, Tryz.ntmps154
   go_wp2
   go_quiet (fail)
   go_wp2
   refine bodyPost_ret (v := .tuple #[.agg #[.int .u8 0, .int .i64 0, .string (bs []), .slice none 0 0, .int .i64 0], .bool false]) (by simp [results, Tryz.results154, go_sem]) rfl (HF.out _ gl_ ?_)
   have hq := HR.out
   unfold v5_ at hq ⊢
   (repeat' (first | with_reducible exact hq | with_reducible refine x3_ ?_ _ | with_reducible refine za0_ ?_ _ | with_reducible refine w1_ ?_ | with_reducible refine v0_ ?_ ?_ _ | (simp; done) | (simp; omega) | omega))
 · subst h2
   have d1 : ((i : Int) == (l.length : Int)) = false := by simp; omega
   clear h
   go_enter Tryz.func154, Tryz.ntmps154
   go_wp2
   go_quiet (fail)
   go_wp2
   refine bodyPost_ret (v := .tuple #[.agg #[.int .u8 0, .int .i64 0, .string (bs []), .slice none 0 0, .int .i64 0], .bool false]) (by simp [results, Tryz.results154, go_sem]) rfl (HF.out _ gl_ ?_)
   have hq := HR.out
   unfold v5_ at hq ⊢
   (repeat' (first | with_reducible exact hq | with_reducible refine x3_ ?_ _ | with_reducible refine za0_ ?_ _ | with_reducible refine w1_ ?_ | with_reducible refine v0_ ?_ ?_ _ | (simp; done) | (simp; omega) | omega))
theorem zi7_ {d : Nat} {c : UInt8} {r : List UInt8} {y : Sh} (h : zbZ_ d c r = some y) : (∀ k ∈ y.kids, k ≠ []) ∧ ((c.toNat = 110 ∨ c.toNat = 116) ∨ ∃ r k, cnt c r = some (y.kids.length, k)) ∧ y.op = c := by
 simp only [zbZ_] at h
 split at h
 · cases hn : num 59 r with
   | none => simp [hn] at h
   | some z => simp only [hn, Option.map_some, Option.some.injEq] at h; subst h; exact ⟨by simp, .inl om_, rfl⟩
 · split at h
   · cases hn : zbO_ r with
     | none => simp [hn] at h
     | some z => simp only [hn, Option.map_some, Option.some.injEq] at h; subst h; exact ⟨by simp, .inl om_, rfl⟩
   · split at h
     · simp at h
     · rename_i m k hc
       split at h
       · simp at h
       · rename_i ks dp len hk
         simp only [Option.some.injEq] at h
         subst h
         have hb := zdw_ (za6_ d) _ _ _ _ _ hk
         exact ⟨hb.2.2.2.2, .inr ⟨r, k, by rw [hc, hb.1]⟩, rfl⟩
theorem zi8_ {d : Nat} {c : UInt8} {r : List UInt8} {y : Sh} (h : zbZ_ d c r = some y) (n dp : Int) (t : List UInt8) (ad : Option Addr) (kn kc : Nat) (w : World) (base : Nat)
  (hown : w.ownsRow base 29 1 (.slice ad kn kc) y.kids.length (y.kids.map fun k => .string (bs k))) :
  Calls Tryz.prog 177 #[.agg #[.int .u8 c.toNat, .int .i64 n, .string (bs t), .slice ad kn kc, .int .i64 dp]] w fun e w' =>
   e = .returned (.bool (v1_ c y.kids)) ∧ Below w.heap.size w w' := by
 obtain ⟨h1, h2, _⟩ := zi7_ h
 rcases h2 with h2 | h2
 · exact zi4_ c n dp t ad kn kc y.kids om_ om_ om_ om_ w
 · exact zn7_ c n dp t ad kn kc y.kids _ rfl h2 h1 w base hown
theorem zod_ {n f : Nat} (h : zcU_ n = some f) (args : Array Value) (w : World) : (callFunc f args).run Tryz.prog w = .ok (.enter f args) w := by
 simp only [zcU_] at h
 repeat' split at h
 all_goals first
  | (simp only [Option.some.injEq] at h; subst h; kernel_rfl)
  | (simp at h; done)
theorem zoe_ (l : List UInt8) (d : Nat) (hd : d ≤ 63) (ih : zdE_ d l) (b i : Nat) (D : Int) (hD : D = d + 1) (hi : i < l.length) (hl : l.length ≤ 20000) (w : World) (hR : v5_ w b l i) (hb : gN ≤ b) (hG : GOk w) :
  Calls Tryz.prog 154 #[.pointer (some ⟨b, 0, none⟩), .int .i64 D] w (zdV_ b l i w (rd (d + 1) (l.drop i))) := by
 have f0 := z0_ hR
 have f1 := z8_ hR
 have hlb := z4_ hR
 have d1 : ((i : Int) == (l.length : Int)) = false := by simp; omega
 have d2 : (D == 0) = false := by simp; omega
 have HD := Lib.hid hD
 clear hD
 have i1 : (i : Int) < l.length := by omega
 have i2 : (0 : Int) ≤ i := by omega
 obtain ⟨c, hc⟩ : ∃ c, l[i] = c := ⟨_, rfl⟩
 have HC := Lib.hid hc
 clear hc
 have HR := Lib.hid hR
 have HG := Lib.hid hG
 clear hR hG
 rw [List.drop_eq_getElem_cons hi, zob_]
 have q0 : ∀ (w : World), (binOp .eql 220 .nilFunc .nilFunc).run Tryz.prog w = .ok (.bool true) w := fun _ => by kernel_rfl
 have q1 : ∀ (f : Nat) (p : Option Addr) (w : World), (binOp .eql 220 (.func (.func f) #[.pointer p] #[]) .nilFunc).run Tryz.prog w = .ok (.bool false) w := fun _ _ _ => by kernel_rfl
 cases hf : zcU_ l[i].toNat with
 | none =>
   rw [zoc_ hf]
   have HF := Lib.hid hf
   clear hf
   go_enter Tryz.func154, Tryz.ntmps154
   go_wp2
   go_quiet (fail)
   go_wp2
   go_region_held3 (fun w' => w'.cell? ⟨b, 0, none⟩ = some (.string (bs l)) ∧ w'.cell? ⟨b, 1, none⟩ = some (.int .i64 i)) (first | go_keep | (go_split_ands; refine ⟨?_, ?_⟩ <;> exact zee_ as_ so_)) (fail)
   go_wp2_with (go_at_call 176; refine (zft_ _ _ _).mono ?_; rintro e w1 ⟨rfl, rfl⟩; rw [HF.out]; simp only [zeC_])
   refine bodyPost_ret (v := .tuple #[.agg #[.int .u8 0, .int .i64 0, .string (bs []), .slice none 0 0, .int .i64 0], .bool false]) (by simp [results, Tryz.results154, go_sem]) rfl ⟨gl_, rfl, (i : Int) + 1, ?_⟩
   have hq : v5_ (((w.alloc (.cells #[.int .u8 0, .int .i64 0, .string (bs []), .slice none 0 0, .int .i64 0] 155)).drewN nq).setCell ⟨b, 1, none⟩ (.int .i64 ((i : Int) + 1))) b l ((i : Int) + 1) := z3_ (za0_ (x3_ HR.out _) nq) 1 (.int .i64 ((i : Int) + 1))
   unfold v5_ at hq ⊢
   (repeat' (first | with_reducible exact hq | with_reducible refine x3_ ?_ _ | with_reducible refine za0_ ?_ _ | with_reducible refine w1_ ?_ | with_reducible refine v0_ ?_ ?_ _ | (simp; done) | (simp; omega) | omega))
 | some f =>
   have hcf := zod_ hf
   have HF := Lib.hid hf
   clear hf
   cases hr : zbZ_ d l[i] (l.drop (i + 1)) with
   | none =>
     have HRR := Lib.hid hr
     clear hr
     go_enter Tryz.func154, Tryz.ntmps154
     go_wp2
     go_quiet (fail)
     go_wp2
     go_region_held3 (fun w' => w'.cell? ⟨b, 0, none⟩ = some (.string (bs l)) ∧ w'.cell? ⟨b, 1, none⟩ = some (.int .i64 i)) (first | go_keep | (go_split_ands; refine ⟨?_, ?_⟩ <;> exact zee_ as_ so_)) (fail)
     go_wp2_with (go_at_call 176; refine (zft_ _ _ _).mono ?_; rintro e w1 ⟨rfl, rfl⟩; rw [HF.out]; simp only [zeC_])
     have hR1 : v5_ ((((w.alloc (.cells #[.int .u8 0, .int .i64 0, .string (bs []), .slice none 0 0, .int .i64 0] 155)).drewN nq).setCell ⟨b, 1, none⟩ (.int .i64 ((i : Int) + 1))).alloc (.cells #[.int .u8 l[i].toNat, .int .i64 0, .string (bs []), .slice none 0 0, .int .i64 1] 155)).drew b l (i + 1 : Nat) :=
      w1_ (x3_ (z3_ (za0_ (x3_ HR.out _) nq) 1 (.int .i64 ((i : Int) + 1))) _)
     have hX1 : ShAt ((((w.alloc (.cells #[.int .u8 0, .int .i64 0, .string (bs []), .slice none 0 0, .int .i64 0] 155)).drewN nq).setCell ⟨b, 1, none⟩ (.int .i64 ((i : Int) + 1))).alloc (.cells #[.int .u8 l[i].toNat, .int .i64 0, .string (bs []), .slice none 0 0, .int .i64 1] 155)).drew (w.heap.size + 1) l[i].toNat 0 [] (.slice none 0 0) 1 := by
      have h := w1_ (y8_ (((w.alloc (.cells #[.int .u8 0, .int .i64 0, .string (bs []), .slice none 0 0, .int .i64 0] 155)).drewN nq).setCell ⟨b, 1, none⟩ (.int .i64 ((i : Int) + 1))) (.cells #[.int .u8 l[i].toNat, .int .i64 0, .string (bs []), .slice none 0 0, .int .i64 1] 155))
      have e : (((w.alloc (.cells #[.int .u8 0, .int .i64 0, .string (bs []), .slice none 0 0, .int .i64 0] 155)).drewN nq).setCell ⟨b, 1, none⟩ (.int .i64 ((i : Int) + 1))).heap.size = w.heap.size + 1 := by simp
      rw [e] at h
      exact h
     have hZ1 : ((((w.alloc (.cells #[.int .u8 0, .int .i64 0, .string (bs []), .slice none 0 0, .int .i64 0] 155)).drewN nq).setCell ⟨b, 1, none⟩ (.int .i64 ((i : Int) + 1))).alloc (.cells #[.int .u8 l[i].toNat, .int .i64 0, .string (bs []), .slice none 0 0, .int .i64 1] 155)).drew.heap[w.heap.size]? = some (.cells #[.int .u8 0, .int .i64 0, .string (bs []), .slice none 0 0, .int .i64 0] 155 (0, 0)) :=
      w1_ (x3_ (v0_ (za0_ (y8_ _ _) nq) so_ _) _)
     have hg1 : GL [b] w ((((w.alloc (.cells #[.int .u8 0, .int .i64 0, .string (bs []), .slice none 0 0, .int .i64 0] 155)).drewN nq).setCell ⟨b, 1, none⟩ (.int .i64 ((i : Int) + 1))).alloc (.cells #[.int .u8 l[i].toNat, .int .i64 0, .string (bs []), .slice none 0 0, .int .i64 1] 155)).drew := gl_
     have hw1 : w.heap.size + 2 ≤ ((((w.alloc (.cells #[.int .u8 0, .int .i64 0, .string (bs []), .slice none 0 0, .int .i64 0] 155)).drewN nq).setCell ⟨b, 1, none⟩ (.int .i64 ((i : Int) + 1))).alloc (.cells #[.int .u8 l[i].toNat, .int .i64 0, .string (bs []), .slice none 0 0, .int .i64 1] 155)).drew.heap.size := by simp
     generalize ((((w.alloc (.cells #[.int .u8 0, .int .i64 0, .string (bs []), .slice none 0 0, .int .i64 0] 155)).drewN nq).setCell ⟨b, 1, none⟩ (.int .i64 ((i : Int) + 1))).alloc (.cells #[.int .u8 l[i].toNat, .int .i64 0, .string (bs []), .slice none 0 0, .int .i64 1] 155)).drew = w1 at *
     have hG1 := za8_ HG.out hg1 sx_
     have hs := HG.out.size
     refine (zgM_ l d om_ ih b (w.heap.size + 1) i l[i] f HF.out D HD.out om_ hl w1 hR1 hX1 om_ hb om_ hG1).mono ?_
     rintro e w2 hp
     rw [HRR.out] at hp
     obtain ⟨hg2, rfl, a, hR2⟩ := hp
     have hZ2 := x6_ hZ1 hg2 so_
     have f2 := z8_ hZ2
     have f3 := z0_ hZ2
     go_wp2
     refine bodyPost_ret (v := .tuple #[.agg #[.int .u8 0, .int .i64 0, .string (bs []), .slice none 0 0, .int .i64 0], .bool false]) (by simp [results, Tryz.results154, go_sem, f2, f3]) rfl ⟨?_, rfl, a, ?_⟩
     · have hg3 : GL [b] w w2 := y7_ hg2 hg1 sx_
       exact gl_
     · have hq := hR2
       unfold v5_ at hq ⊢
       (repeat' (first | with_reducible exact hq | with_reducible refine x3_ ?_ _ | with_reducible refine za0_ ?_ _ | with_reducible refine w1_ ?_ | with_reducible refine v0_ ?_ ?_ _ | (simp; done) | (simp; omega) | omega))
   | some y =>
     have HRR := Lib.hid hr
     clear hr
     obtain ⟨_, _, hyop⟩ := zi7_ HRR.out
     have HOP := Lib.hid hyop
     clear hyop
     cases hfit : v1_ l[i] y.kids with
     | false =>
       have HFIT := Lib.hid hfit
       clear hfit
       show Calls _ _ _ w (zdV_ b l i w (if v1_ l[i] y.kids = true then some y else none))
       rw [HFIT.out, if_neg si_]
       go_enter Tryz.func154, Tryz.ntmps154
       go_wp2
       go_quiet (fail)
       go_wp2
       go_region_held3 (fun w' => w'.cell? ⟨b, 0, none⟩ = some (.string (bs l)) ∧ w'.cell? ⟨b, 1, none⟩ = some (.int .i64 i)) (first | go_keep | (go_split_ands; refine ⟨?_, ?_⟩ <;> exact zee_ as_ so_)) (fail)
       go_wp2_with (go_at_call 176; refine (zft_ _ _ _).mono ?_; rintro e w1 ⟨rfl, rfl⟩; rw [HF.out]; simp only [zeC_])
       have hR1 : v5_ ((((w.alloc (.cells #[.int .u8 0, .int .i64 0, .string (bs []), .slice none 0 0, .int .i64 0] 155)).drewN nq).setCell ⟨b, 1, none⟩ (.int .i64 ((i : Int) + 1))).alloc (.cells #[.int .u8 l[i].toNat, .int .i64 0, .string (bs []), .slice none 0 0, .int .i64 1] 155)).drew b l (i + 1 : Nat) :=
        w1_ (x3_ (z3_ (za0_ (x3_ HR.out _) nq) 1 (.int .i64 ((i : Int) + 1))) _)
       have hX1 : ShAt ((((w.alloc (.cells #[.int .u8 0, .int .i64 0, .string (bs []), .slice none 0 0, .int .i64 0] 155)).drewN nq).setCell ⟨b, 1, none⟩ (.int .i64 ((i : Int) + 1))).alloc (.cells #[.int .u8 l[i].toNat, .int .i64 0, .string (bs []), .slice none 0 0, .int .i64 1] 155)).drew (w.heap.size + 1) l[i].toNat 0 [] (.slice none 0 0) 1 := by
        have h := w1_ (y8_ (((w.alloc (.cells #[.int .u8 0, .int .i64 0, .string (bs []), .slice none 0 0, .int .i64 0] 155)).drewN nq).setCell ⟨b, 1, none⟩ (.int .i64 ((i : Int) + 1))) (.cells #[.int .u8 l[i].toNat, .int .i64 0, .string (bs []), .slice none 0 0, .int .i64 1] 155))
        have e : (((w.alloc (.cells #[.int .u8 0, .int .i64 0, .string (bs []), .slice none 0 0, .int .i64 0] 155)).drewN nq).setCell ⟨b, 1, none⟩ (.int .i64 ((i : Int) + 1))).heap.size = w.heap.size + 1 := by simp
        rw [e] at h
        exact h
       have hZ1 : ((((w.alloc (.cells #[.int .u8 0, .int .i64 0, .string (bs []), .slice none 0 0, .int .i64 0] 155)).drewN nq).setCell ⟨b, 1, none⟩ (.int .i64 ((i : Int) + 1))).alloc (.cells #[.int .u8 l[i].toNat, .int .i64 0, .string (bs []), .slice none 0 0, .int .i64 1] 155)).drew.heap[w.heap.size]? = some (.cells #[.int .u8 0, .int .i64 0, .string (bs []), .slice none 0 0, .int .i64 0] 155 (0, 0)) :=
        w1_ (x3_ (v0_ (za0_ (y8_ _ _) nq) so_ _) _)
       have hg1 : GL [b] w ((((w.alloc (.cells #[.int .u8 0, .int .i64 0, .string (bs []), .slice none 0 0, .int .i64 0] 155)).drewN nq).setCell ⟨b, 1, none⟩ (.int .i64 ((i : Int) + 1))).alloc (.cells #[.int .u8 l[i].toNat, .int .i64 0, .string (bs []), .slice none 0 0, .int .i64 1] 155)).drew := gl_
       have hw1 : w.heap.size + 2 ≤ ((((w.alloc (.cells #[.int .u8 0, .int .i64 0, .string (bs []), .slice none 0 0, .int .i64 0] 155)).drewN nq).setCell ⟨b, 1, none⟩ (.int .i64 ((i : Int) + 1))).alloc (.cells #[.int .u8 l[i].toNat, .int .i64 0, .string (bs []), .slice none 0 0, .int .i64 1] 155)).drew.heap.size := by simp
       generalize ((((w.alloc (.cells #[.int .u8 0, .int .i64 0, .string (bs []), .slice none 0 0, .int .i64 0] 155)).drewN nq).setCell ⟨b, 1, none⟩ (.int .i64 ((i : Int) + 1))).alloc (.cells #[.int .u8 l[i].toNat, .int .i64 0, .string (bs []), .slice none 0 0, .int .i64 1] 155)).drew = w1 at *
       have hG1 := za8_ HG.out hg1 sx_
       have hs := HG.out.size
       refine (zgM_ l d om_ ih b (w.heap.size + 1) i l[i] f HF.out D HD.out om_ hl w1 hR1 hX1 om_ hb om_ hG1).mono ?_
       rintro e w2 hp
       rw [HRR.out] at hp
       obtain ⟨hg2, rfl, hR2, ad, kn, kc, hX2, hown2⟩ := hp
       have hZ2 := x6_ hZ1 hg2 so_
       have f2 := z8_ hX2
       have f3 := z0_ hX2
       have hg3 : GL [b] w w2 := y7_ hg2 hg1 sx_
       have HX2 := Lib.hid hX2
       have HZ2 := Lib.hid hZ2
       have HR2 := Lib.hid hR2
       clear hX2 hZ2 hR2 hX1 hZ1 hR1
       go_wp2_with (go_at_call 177; refine (zi8_ HRR.out _ _ _ _ _ _ _ _ hown2).mono ?_; rintro e w3 ⟨rfl, hb3⟩; rw [HFIT.out]; have HZ3 := Lib.hid (x0_ HZ2.out hb3 (z4_ HZ2.out)); have f4 := z8_ HZ3.out; have f5 := z0_ HZ3.out)
       refine bodyPost_ret (v := .tuple #[.agg #[.int .u8 0, .int .i64 0, .string (bs []), .slice none 0 0, .int .i64 0], .bool false]) (by simp [results, Tryz.results154, go_sem, f4, f5]) rfl ?_
       have hg4 := y6_ hb3 hg3
       refine ⟨gl_, rfl, (i + y.len : Nat), ?_⟩
       have hq := x0_ HR2.out hb3 (z4_ HR2.out)
       unfold v5_
       have hlt2 := z4_ HZ2.out
       (repeat' (first | with_reducible exact hq | with_reducible refine x3_ ?_ _ | with_reducible refine za0_ ?_ _ | with_reducible refine w1_ ?_ | with_reducible refine v0_ ?_ ?_ _ | (simp; done) | (simp; omega) | omega))
     | true =>
       have HFIT := Lib.hid hfit
       clear hfit
       show Calls _ _ _ w (zdV_ b l i w (if v1_ l[i] y.kids = true then some y else none))
       rw [HFIT.out, if_pos rfl]
       go_enter Tryz.func154, Tryz.ntmps154
       go_wp2
       go_quiet (fail)
       go_wp2
       go_region_held3 (fun w' => w'.cell? ⟨b, 0, none⟩ = some (.string (bs l)) ∧ w'.cell? ⟨b, 1, none⟩ = some (.int .i64 i)) (first | go_keep | (go_split_ands; refine ⟨?_, ?_⟩ <;> exact zee_ as_ so_)) (fail)
       go_wp2_with (go_at_call 176; refine (zft_ _ _ _).mono ?_; rintro e w1 ⟨rfl, rfl⟩; rw [HF.out]; simp only [zeC_])
       have hR1 : v5_ ((((w.alloc (.cells #[.int .u8 0, .int .i64 0, .string (bs []), .slice none 0 0, .int .i64 0] 155)).drewN nq).setCell ⟨b, 1, none⟩ (.int .i64 ((i : Int) + 1))).alloc (.cells #[.int .u8 l[i].toNat, .int .i64 0, .string (bs []), .slice none 0 0, .int .i64 1] 155)).drew b l (i + 1 : Nat) :=
        w1_ (x3_ (z3_ (za0_ (x3_ HR.out _) nq) 1 (.int .i64 ((i : Int) + 1))) _)
       have hX1 : ShAt ((((w.alloc (.cells #[.int .u8 0, .int .i64 0, .string (bs []), .slice none 0 0, .int .i64 0] 155)).drewN nq).setCell ⟨b, 1, none⟩ (.int .i64 ((i : Int) + 1))).alloc (.cells #[.int .u8 l[i].toNat, .int .i64 0, .string (bs []), .slice none 0 0, .int .i64 1] 155)).drew (w.heap.size + 1) l[i].toNat 0 [] (.slice none 0 0) 1 := by
        have h := w1_ (y8_ (((w.alloc (.cells #[.int .u8 0, .int .i64 0, .string (bs []), .slice none 0 0, .int .i64 0] 155)).drewN nq).setCell ⟨b, 1, none⟩ (.int .i64 ((i : Int) + 1))) (.cells #[.int .u8 l[i].toNat, .int .i64 0, .string (bs []), .slice none 0 0, .int .i64 1] 155))
        have e : (((w.alloc (.cells #[.int .u8 0, .int .i64 0, .string (bs []), .slice none 0 0, .int .i64 0] 155)).drewN nq).setCell ⟨b, 1, none⟩ (.int .i64 ((i : Int) + 1))).heap.size = w.heap.size + 1 := by simp
        rw [e] at h
        exact h
       have hZ1 : ((((w.alloc (.cells #[.int .u8 0, .int .i64 0, .string (bs []), .slice none 0 0, .int .i64 0] 155)).drewN nq).setCell ⟨b, 1, none⟩ (.int .i64 ((i : Int) + 1))).alloc (.cells #[.int .u8 l[i].toNat, .int .i64 0, .string (bs []), .slice none 0 0, .int .i64 1] 155)).drew.heap[w.heap.size]? = some (.cells #[.int .u8 0, .int .i64 0, .string (bs []), .slice none 0 0, .int .i64 0] 155 (0, 0)) :=
        w1_ (x3_ (v0_ (za0_ (y8_ _ _) nq) so_ _) _)
       have hg1 : GL [b] w ((((w.alloc (.cells #[.int .u8 0, .int .i64 0, .string (bs []), .slice none 0 0, .int .i64 0] 155)).drewN nq).setCell ⟨b, 1, none⟩ (.int .i64 ((i : Int) + 1))).alloc (.cells #[.int .u8 l[i].toNat, .int .i64 0, .string (bs []), .slice none 0 0, .int .i64 1] 155)).drew := gl_
       have hw1 : w.heap.size + 2 ≤ ((((w.alloc (.cells #[.int .u8 0, .int .i64 0, .string (bs []), .slice none 0 0, .int .i64 0] 155)).drewN nq).setCell ⟨b, 1, none⟩ (.int .i64 ((i : Int) + 1))).alloc (.cells #[.int .u8 l[i].toNat, .int .i64 0, .string (bs []), .slice none 0 0, .int .i64 1] 155)).drew.heap.size := by simp
       generalize ((((w.alloc (.cells #[.int .u8 0, .int .i64 0, .string (bs []), .slice none 0 0, .int .i64 0] 155)).drewN nq).setCell ⟨b, 1, none⟩ (.int .i64 ((i : Int) + 1))).alloc (.cells #[.int .u8 l[i].toNat, .int .i64 0, .string (bs []), .slice none 0 0, .int .i64 1] 155)).drew = w1 at *
       have hG1 := za8_ HG.out hg1 sx_
       have hs := HG.out.size
       refine (zgM_ l d om_ ih b (w.heap.size + 1) i l[i] f HF.out D HD.out om_ hl w1 hR1 hX1 om_ hb om_ hG1).mono ?_
       rintro e w2 hp
       rw [HRR.out] at hp
       obtain ⟨hg2, rfl, hR2, ad, kn, kc, hX2, hown2⟩ := hp
       have hZ2 := x6_ hZ1 hg2 so_
       have f2 := z8_ hX2
       have f3 := z0_ hX2
       have hg3 : GL [b] w w2 := y7_ hg2 hg1 sx_
       have HX2 := Lib.hid hX2
       have HZ2 := Lib.hid hZ2
       have HR2 := Lib.hid hR2
       clear hX2 hZ2 hR2 hX1 hZ1 hR1
       go_wp2_with (go_at_call 177; refine (zi8_ HRR.out _ _ _ _ _ _ _ _ hown2).mono ?_; rintro e w3 ⟨rfl, hb3⟩; rw [HFIT.out]; have HZ3 := Lib.hid (x0_ HZ2.out hb3 (z4_ HZ2.out)); have f4 := z8_ HZ3.out; have f5 := z0_ HZ3.out; have HX3 := Lib.hid (x0_ HX2.out hb3 (z4_ HX2.out)); have f6 := z8_ HX3.out; have f7 := z0_ HX3.out)
       refine bodyPost_ret (v := .tuple #[.agg #[.int .u8 l[i].toNat, .int .i64 (q6_ y), .string (bs y.text), .slice ad kn kc, .int .i64 y.deep], .bool true]) (by simp [results, Tryz.results154, go_sem, f4, f5]) rfl ?_
       have hg4 := y6_ hb3 hg3
       refine ⟨gl_, ad, kn, kc, by rw [HOP.out], ?_, ?_⟩
       · have hq := x0_ HR2.out hb3 (z4_ HR2.out)
         unfold v5_
         have hlt2 := z4_ HZ2.out
         (repeat' (first | with_reducible exact hq | with_reducible refine x3_ ?_ _ | with_reducible refine za0_ ?_ _ | with_reducible refine w1_ ?_ | with_reducible refine v0_ ?_ ?_ _ | (simp; done) | (simp; omega) | omega))
       · have h3 := zdv_ (zdu_ hown2 hb3 rfl) (b2 := w.heap.size) om_
         have hne := v7_ h3 HZ3.out de_
         exact v3_ (v3_ (v3_ (v3_ (v3_ h3 (p := ⟨w.heap.size, 0, none⟩) hne _) (p := ⟨w.heap.size, 1, none⟩) hne _) (p := ⟨w.heap.size, 2, none⟩) hne _) (p := ⟨w.heap.size, 3, none⟩) hne _) (p := ⟨w.heap.size, 4, none⟩) hne _
theorem zfv_ (l : List UInt8) (hl : l.length ≤ 20000) : ∀ d, d ≤ 64 → zdE_ d l
 | 0, _ => fun b i D w hD hi hb hR hG => by
   simp only [rd]
   refine zi6_ l b i D hl w hR ?_
   by_cases h : i = l.length
   · exact .inl h
   · exact .inr ⟨by omega, by omega⟩
 | d + 1, hd => fun b i D w hD hi hb hR hG => by
   by_cases h : i = l.length
   · rw [List.drop_of_length_le om_]
     simp only [rd]
     exact zi6_ l b i D hl w hR (.inl h)
   · exact zoe_ l d om_ (zfv_ l hl d om_) b i D om_ om_ hl w hR hb hG
end Go.Proofs.YtembdkodajichaaGreatDoor
-- TermX
namespace Go.Proofs.YtembdkodajichaaGreatDoor
open Go.RowKit
def zof_ (w : World) (o : Option Sh) (e : Ending) (w' : World) : Prop :=
 Below w.heap.size w w' ∧
 match o with
 | none => e = .returned (.tuple #[.agg #[.int .u8 0, .int .i64 0, .string (bs []), .slice none 0 0, .int .i64 0], .bool false])
 | some x => ∃ ad n c, e = .returned (.tuple #[.agg #[.int .u8 x.op.toNat, .int .i64 (q6_ x), .string (bs x.text), .slice ad n c, .int .i64 x.deep], .bool true]) ∧
  w'.ownsRow w.heap.size 29 1 (.slice ad n c) x.kids.length (x.kids.map fun k => .string (bs k))
theorem zgN_ {b : Nat} {w w1 w2 : World} {n : Nat} (h : GL [b] w1 w2) (h1 : Below n w w1) (hn : n = w.heap.size) (hb : n ≤ b) : Below n w w2 := by
 subst hn
 refine ⟨h.os.trans h1.os, h.tape.trans h1.tape, h.output.trans h1.output, Nat.le_trans h1.size h.size, fun k hk => ?_⟩
 rw [h.block k (Nat.lt_of_lt_of_le hk h1.size) so_]
 exact h1.block k hk
theorem zfw_ (l : List UInt8) (hl : l.length ≤ 9000000000000000000) (w : World) (hG : GOk w) :
  Calls Tryz.prog 124 #[.string (bs l)] w (zof_ w (rt l)) := by
 by_cases h16 : 16384 < l.length
 · have H : rt l = none := by unfold rt; rw [if_neg om_]
   rw [H]; clear H
   have h17 : (16384 : Int) < l.length := by omega
   go_enter Tryz.func124, Tryz.ntmps124
   go_wp2
   exact bodyPost_ret (v := .tuple #[.agg #[.int .u8 0, .int .i64 0, .string (bs []), .slice none 0 0, .int .i64 0], .bool false]) (by simp [results, Tryz.results124, go_sem]) rfl ⟨bl_, rfl⟩
 · have h17 : ¬ (16384 : Int) < l.length := by omega
   have hR1 : v5_ ((w.alloc (.cells #[.int .u8 0, .int .i64 0, .string (bs []), .slice none 0 0, .int .i64 0] 155)).alloc (.cells #[.string (bs l), .int .i64 0] 188)) (w.heap.size + 1) l 0 := by
    have h := y8_ (w.alloc (.cells #[.int .u8 0, .int .i64 0, .string (bs []), .slice none 0 0, .int .i64 0] 155)) (.cells #[.string (bs l), .int .i64 0] 188)
    rw [show (w.alloc (.cells #[.int .u8 0, .int .i64 0, .string (bs []), .slice none 0 0, .int .i64 0] 155)).heap.size = w.heap.size + 1 by simp] at h
    exact h
   have hZ1 := x3_ (y8_ w (.cells #[.int .u8 0, .int .i64 0, .string (bs []), .slice none 0 0, .int .i64 0] 155)) (.cells #[.string (bs l), .int .i64 0] 188)
   have hb1 : Below w.heap.size w ((w.alloc (.cells #[.int .u8 0, .int .i64 0, .string (bs []), .slice none 0 0, .int .i64 0] 155)).alloc (.cells #[.string (bs l), .int .i64 0] 188)) := bl_
   have hG1 := zcq_ hG hb1
   have hs := hG.size
   cases hr : rd 64 l with
   | none =>
     have H : rt l = none := by unfold rt; rw [if_pos om_, hr]
     rw [H]; clear H
     have HRD := Lib.hid hr
     clear hr
     go_enter Tryz.func124, Tryz.ntmps124
     go_wp2_with (go_at_call 154; refine (zfv_ l om_ 64 om_ (w.heap.size + 1) 0 _ _ rfl om_ om_ hR1 hG1).mono ?_; rintro e w2 hp; rw [List.drop_zero, HRD.out] at hp; obtain ⟨hg2, rfl, a, hR2⟩ := hp; have hZ2 := x6_ hZ1 hg2 si_; have f0 := z8_ hZ2; have f1 := z0_ hZ2; have hsz := z4_ hZ2; have hb2 := zgN_ hg2 hb1 rfl om_)
     exact bodyPost_ret (v := .tuple #[.agg #[.int .u8 0, .int .i64 0, .string (bs []), .slice none 0 0, .int .i64 0], .bool false]) (by simp [results, Tryz.results124, go_sem, f0, f1, hsz]) rfl ⟨bl_, rfl⟩
   | some x =>
     by_cases hx : x.len = l.length
     · have H : rt l = some x := by unfold rt; rw [if_pos om_, hr]; simp [hx]
       rw [H]; clear H
       have hx1 : ((x.len : Int) != (l.length : Int)) = false := by simp; omega
       have HX := Lib.hid hx
       have HRD := Lib.hid hr
       clear hr hx
       go_enter Tryz.func124, Tryz.ntmps124
       go_wp2_with (go_at_call 154; refine (zfv_ l om_ 64 om_ (w.heap.size + 1) 0 _ _ rfl om_ om_ hR1 hG1).mono ?_; rintro e w2 hp; rw [List.drop_zero, HRD.out] at hp; obtain ⟨hg2, ad, kn, kc, rfl, hR2, hown⟩ := hp; rw [Nat.zero_add] at hR2; have hZ2 := x6_ hZ1 hg2 si_; have hb2 := zgN_ hg2 hb1 rfl om_; have f2 := z8_ hR2; have f3 := z0_ hR2; have hsz := z4_ hZ2; have hsz2 := z4_ hR2; have f0 := z8_ hZ2; have f1 := z0_ hZ2)
       refine bodyPost_ret (v := .tuple #[.agg #[.int .u8 x.op.toNat, .int .i64 (q6_ x), .string (bs x.text), .slice ad kn kc, .int .i64 x.deep], .bool true]) (by simp [results, Tryz.results124, go_sem, f0, f1, hsz]) rfl ⟨bl_, ad, kn, kc, rfl, ?_⟩
       have hne := v7_ hown hZ2 de_
       exact (v3_ (v3_ (v3_ (v3_ (v3_ (zdv_ hown (b2 := w.heap.size) so_) (p := ⟨w.heap.size, 0, none⟩) hne _) (p := ⟨w.heap.size, 1, none⟩) hne _) (p := ⟨w.heap.size, 2, none⟩) hne _) (p := ⟨w.heap.size, 3, none⟩) hne _) (p := ⟨w.heap.size, 4, none⟩) hne _).alloc _
     · have H : rt l = none := by unfold rt; rw [if_pos om_, hr]; simp [hx]
       rw [H]; clear H
       have hx1 : ((x.len : Int) != (l.length : Int)) = true := by simp; omega
       have HRD := Lib.hid hr
       clear hr hx
       go_enter Tryz.func124, Tryz.ntmps124
       go_wp2_with (go_at_call 154; refine (zfv_ l om_ 64 om_ (w.heap.size + 1) 0 _ _ rfl om_ om_ hR1 hG1).mono ?_; rintro e w2 hp; rw [List.drop_zero, HRD.out] at hp; obtain ⟨hg2, ad, kn, kc, rfl, hR2, hown⟩ := hp; rw [Nat.zero_add] at hR2; have hZ2 := x6_ hZ1 hg2 si_; have hb2 := zgN_ hg2 hb1 rfl om_; have f2 := z8_ hR2; have f3 := z0_ hR2; have hsz := z4_ hZ2; have hsz2 := z4_ hR2; have f0 := z8_ hZ2; have f1 := z0_ hZ2)
       exact bodyPost_ret (v := .tuple #[.agg #[.int .u8 0, .int .i64 0, .string (bs []), .slice none 0 0, .int .i64 0], .bool false]) (by simp [results, Tryz.results124, go_sem, f0, f1, hsz]) rfl ⟨bl_, rfl⟩
theorem zfx_ (l : List UInt8) (hl : l.length ≤ 9000000000000000000) (w : World) (hG : GOk w) :
  Calls Tryz.prog 109 #[.string (bs l)] w fun e w' => e = .returned (.bool (right l)) ∧ Below w.heap.size w w' := by
 cases hr : rt l with
 | none =>
   have H : Hid (right l = false) := by show right l = false; simp [right, hr]
   have HR := Lib.hid hr
   clear hr
   go_enter Tryz.func109, Tryz.ntmps109
   go_wp2_with (go_at_call 124; refine (zfw_ l hl _ hG).mono ?_; rintro e w1 hp; rw [HR.out] at hp; obtain ⟨hb1, rfl⟩ := hp)
   go_ret
   exact ⟨by rw [H.out]; rfl, bl_⟩
 | some x =>
   have H : Hid (right l = true) := by show right l = true; simp [right, hr]
   have HR := Lib.hid hr
   clear hr
   go_enter Tryz.func109, Tryz.ntmps109
   go_wp2_with (go_at_call 124; refine (zfw_ l hl _ hG).mono ?_; rintro e w1 hp; rw [HR.out] at hp; obtain ⟨hb1, ad, kn, kc, rfl, hown⟩ := hp)
   go_ret
   exact ⟨by rw [H.out]; rfl, bl_⟩
theorem zdF_ (l : List UInt8) (hl : l.length ≤ 9000000000000000000) (w : World) (hG : GOk w) :
  Calls Tryz.prog 72 #[.string (bs l)] w (ze5_ w (rt l)) := by
 cases hr : rt l with
 | none =>
   have HR := Lib.hid hr
   clear hr
   go_enter Tryz.func72, Tryz.ntmps72
   go_wp2_with (go_at_call 124; refine (zfw_ l hl _ (zbP_ hG _)).mono ?_; rintro e w1 hp; rw [HR.out] at hp; obtain ⟨hb1, rfl⟩ := hp; have hZ1 := x0_ (y8_ w (.cells #[.int .u8 0, .int .i64 0, .string (bs []), .slice none 0 0] 98)) hb1 si_; have f0 := z8_ hZ1; have f1 := z0_ hZ1; have hsz := z4_ hZ1)
   exact bodyPost_ret (v := .tuple #[.agg #[.int .u8 0, .int .i64 0, .string (bs []), .slice none 0 0], .bool false]) (by simp [results, Tryz.results72, go_sem, f0, f1, hsz]) rfl ⟨rfl, bl_⟩
 | some x =>
   have HR := Lib.hid hr
   clear hr
   go_enter Tryz.func72, Tryz.ntmps72
   go_wp2_with (go_at_call 124; refine (zfw_ l hl _ (zbP_ hG _)).mono ?_; rintro e w1 hp; rw [HR.out] at hp; obtain ⟨hb1, ad, kn, kc, rfl, hown⟩ := hp; have hZ1 := x0_ (y8_ w (.cells #[.int .u8 0, .int .i64 0, .string (bs []), .slice none 0 0] 98)) hb1 si_; have f0 := z8_ hZ1; have f1 := z0_ hZ1; have hsz := z4_ hZ1)
   refine bodyPost_ret (v := .tuple #[.agg #[.int .u8 x.op.toNat, .int .i64 (q6_ x), .string (bs x.text), .slice ad kn kc], .bool true]) (by simp [results, Tryz.results72, go_sem, f0, f1, hsz]) rfl ⟨ad, kn, kc, rfl, ?_, bl_⟩
   have hne := v7_ hown hZ1 de_
   exact (v3_ (v3_ (v3_ (v3_ (zdv_ hown (b2 := w.heap.size) si_) (p := ⟨w.heap.size, 0, none⟩) hne _) (p := ⟨w.heap.size, 1, none⟩) hne _) (p := ⟨w.heap.size, 2, none⟩) hne _) (p := ⟨w.heap.size, 3, none⟩) hne _).alloc _
end Go.Proofs.YtembdkodajichaaGreatDoor
-- TermY
namespace Go.Proofs.YtembdkodajichaaGreatDoor
open Go.RowKit
theorem Tryz.sizeBuilder : (Tryz.prog.info? 117).map (·.size) = some 2 := by kernel_rfl
theorem Tryz.liesBuilder : liesAt Tryz.prog Tryz.prog.depth 117 (2 / Tryz.prog.cellsOf 117) 0 117 1 = true := by kernel_rfl
theorem Tryz.infoByte : (Tryz.prog.info? 5).map (fun i => (i.zero, i.size, i.bytes)) = some (some (.int .u8 0), 1, 1) := by kernel_rfl
def IsB (B b : Nat) (l : List UInt8) (w : World) : Prop := Lib.IsBuilderF 117 5 B b (Lib.byteCells l) w
theorem zi9_ (b : Nat) (w : World) (h0 : w.cell? ⟨b, 0, none⟩ = some (.pointer none)) (hsh : w.shape? b = some (117, 2)) (hfz : w.frozen? ⟨b, 0, none⟩ = false) :
  Calls Tryz.prog 134 #[.pointer (some ⟨b, 0, none⟩)] w fun e w' => e = .returned (.tuple #[]) ∧ w' = w.setCell ⟨b, 0, none⟩ (.pointer (some ⟨b, 0, none⟩)) := by
 obtain ⟨j, hj, hjs⟩ := Option.map_eq_some_iff.1 Tryz.sizeBuilder
 have r1 : (convert 115 205 (.pointer (some ⟨b, 0, none⟩))).run Tryz.prog w = .ok (.pointer (some ⟨b, 0, none⟩)) w :=
  Lib.run_to_unsafe w ⟨b, 0, none⟩ Tryz.underlying115 Tryz.underlying205 hj (by rw [hjs]; decide) hsh (Nat.zero_lt_succ 1)
 have r2 : (callFunc 164 #[.pointer (some ⟨b, 0, none⟩)]).run Tryz.prog w = .ok (.value (.pointer (some ⟨b, 0, none⟩))) w := by
  rw [run_callFunc_extern Tryz.func164 (by kernel_rfl) (by kernel_rfl) (by kernel_rfl) (e := Extern.AbiNoEscape.same) (by kernel_rfl), Lib.run_noEscape]
  rfl
 have r3 : (convert 205 115 (.pointer (some ⟨b, 0, none⟩))).run Tryz.prog w = .ok (.pointer (some ⟨b, 0, none⟩)) w :=
  Lib.run_from_unsafe w ⟨b, 0, none⟩ Tryz.underlying205 Tryz.underlying115 hj hsh Tryz.liesBuilder
 clear hj hjs hsh
 go_enter Tryz.func134, Tryz.ntmps134
 go_wp2
 go_end0
 exact ⟨rfl, rfl⟩
theorem zja_ (b : Nat) (w : World) (h0 : w.cell? ⟨b, 0, none⟩ = some (.pointer (some ⟨b, 0, none⟩))) :
  Calls Tryz.prog 134 #[.pointer (some ⟨b, 0, none⟩)] w fun e w' => e = .returned (.tuple #[]) ∧ w' = w := by
 obtain ⟨j, hj, _⟩ := Option.map_eq_some_iff.1 Tryz.sizeBuilder
 have r1 := Lib.run_neq_ptr_same w (⟨b, 0, none⟩ : Addr) Tryz.underlying115 hj
 clear hj
 go_enter Tryz.func134, Tryz.ntmps134
 go_wp2
 go_end0
 exact ⟨rfl, rfl⟩
theorem zog_ (B b : Nat) (l : List UInt8) (w : World) (h : IsB B b l w) :
  Calls Tryz.prog 134 #[.pointer (some ⟨b, 0, none⟩)] w fun e w' => e = .returned (.tuple #[]) ∧ (Lib.BuilderAtF 117 5 B b (.pointer (some ⟨b, 0, none⟩)) (Lib.byteCells l) w' ∧ Below B w w') := by
 rcases h with h | h
 · refine (zi9_ b w h.cell0 h.shape h.frozen0).mono ?_
   rintro e w' ⟨rfl, rfl⟩
   exact ⟨rfl, h.used _, (Below.refl B w).setCell (p := ⟨b, 0, none⟩) h.1 _⟩
 · refine (zja_ b w h.cell0).mono ?_
   rintro e w' ⟨rfl, rfl⟩
   exact ⟨rfl, h, Below.refl B _⟩
theorem zjb_ (B b : Nat) (l s : List UInt8) (w : World) (h : IsB B b l w) (hlen : l.length + s.length ≤ 140737488355328) (hBw : B ≤ w.heap.size) :
  Calls Tryz.prog 85 #[.pointer (some ⟨b, 0, none⟩), .string (bs s)] w fun e w' => e = .returned (.tuple #[.int .i64 s.length, .nilIface]) ∧ (IsB B b (l ++ s) w' ∧ Below B w w') := by
 obtain ⟨i0, hi, hz0, hz1, hz2⟩ := info_parts Tryz.infoByte
 go_enter Tryz.func85, Tryz.ntmps85
 go_wp2_with (go_at_call 134; refine (zog_ B b l _ h).mono ?_)
 rintro e w1 ⟨rfl, h1, hb1⟩
 obtain ⟨hB, v, hbk, hown, hne⟩ := h1
 have c0 := z0_ hbk
 have c1 := z8_ hbk
 go_wp2_with (at_builtin; refine Lib.wpList_append_own_stringF _ rfl _ _ 47 9 rfl B 5 i0 Tryz.underlying47 Tryz.underlying9 hi hz0 hz1 hz2 _ _ _ rfl hown (bs s) rfl ?c3 ?c4 ?c5 ?_)
 case c3 => rw [Lib.byteCells_length, zaL_]; unfold maxLen; omega
 case c4 => rw [Lib.byteCells_length, zaL_]; omega
 case c5 => have := hb1.size; omega
 intro v' w2 hown' hgrow _
 have hb2 := zaR_ hbk hgrow (Ne.symm hne)
 have d0 := z0_ hb2
 have d1 := z8_ hb2
 obtain ⟨ao, n', cap, rfl⟩ : ∃ ao n' cap, v' = .slice ao n' cap := by
  rcases hown'.2 with ⟨hv, _⟩ | ⟨g, cap, cur, fz, hv, _⟩
  · exact ⟨_, _, _, hv⟩
  · exact ⟨_, _, _, hv⟩
 go_wp2
 go_ret2
 refine ⟨rfl, .inr ?_, ?_⟩
 · have e : Lib.byteCells l ++ Lib.strCells (bs s) = Lib.byteCells (l ++ s) := by simp [Lib.byteCells, Lib.strCells]
   have e2 : (Lib.byteCells l).length + s.length = (Lib.byteCells (l ++ s)).length := by simp [Lib.byteCells_length]
   rw [e, e2] at hown'
   exact Lib.BuilderAtF.put hB hb2 hown' de_
 · exact (hb1.grown hgrow (by have := hb1.size; omega) (fun k hk => (hown.lt k hk).1)).setCell (p := ⟨b, 1, none⟩) hB _
end Go.Proofs.YtembdkodajichaaGreatDoor
-- TermZ
namespace Go.Proofs.YtembdkodajichaaGreatDoor
open Go.RowKit
theorem zoh_ {B b : Nat} {l : List UInt8} {w w' : World} (h : IsB B b l w) (hb : Below w.heap.size w w') : IsB B b l w' := by
 have hg : w.grownBy w' none := ⟨hb.os, hb.tape, hb.output, hb.size, fun k hk _ => hb.block k hk⟩
 have hn : ∀ v : Value, v.ownBlock = none ∨ v.ownBlock ≠ none := fun v => by
  cases v.ownBlock with
  | none => exact .inl rfl
  | some x => exact .inr si_
 rcases h with ⟨hB, v, h1, h2, h3⟩ | ⟨hB, v, h1, h2, h3⟩
 · exact .inl ⟨hB, v, x0_ h1 hb (z4_ h1), h2.kept hg (hn v), h3⟩
 · exact .inr ⟨hB, v, x0_ h1 hb (z4_ h1), h2.kept hg (hn v), h3⟩
theorem zjc_ (w : World) : IsB w.heap.size w.heap.size [] (w.alloc (.cells #[.pointer none, .slice none 0 0] 117)) :=
 .inl ⟨Nat.le_refl _, .slice none 0 0, y8_ _ _, ⟨rfl, .inl ⟨rfl, rfl⟩⟩, by simp [Value.ownBlock]⟩
theorem zoi_ (n : Int) (h0 : 0 ≤ n) (h1 : n ≤ 9223372036854775807) (w : World) (hG : GOk w) :
  Calls Tryz.prog 73 #[.int .i64 n] w fun e w' => e = .returned (.string (bs (Lib.decDigits n.toNat))) ∧ Below w.heap.size w w' := by
 refine (Tryz.strconv_Itoa n om_ h1 w hG.pow).mono fun e w' ⟨he, k, os, hw⟩ => ⟨?_, ?_⟩
 · rw [he, Lib.itoa, if_neg om_]; rfl
 · rw [hw]; exact Lib.below_grow _ _ (Nat.le_refl _) _ _
theorem zoj_ (n : Int) (h0 : 0 ≤ n) (h1 : n ≤ 9223372036854775807) (w : World) (hG : GOk w) :
  Calls Tryz.prog 27 #[.int .i64 n, .int .i64 10] w fun e w' => e = .returned (.string (bs (Lib.decDigits n.toNat))) ∧ Below w.heap.size w w' := by
 refine (Tryz.strconv_FormatInt_10 n om_ h1 w hG.pow).mono fun e w' ⟨he, k, os, hw⟩ => ⟨?_, ?_⟩
 · rw [he, Lib.itoa, if_neg om_]; rfl
 · rw [hw]; exact Lib.below_grow _ _ (Nat.le_refl _) _ _
theorem zok_ (l : List UInt8) (hl : l.length ≤ 9000000000000000000) (w : World) (hG : GOk w) :
  Calls Tryz.prog 36 #[.string (bs l)] w fun e w' => e = .returned (.tuple #[.string (bs (za7_ l).1), .int .i64 (za7_ l).2]) ∧ Below w.heap.size w w' := by
 by_cases h : 4096 < l.length
 · have H : Hid (za7_ l = ([], 3)) := by show za7_ l = _; simp [za7_, h]
   go_enter Tryz.func36, Tryz.ntmps36
   go_wp2_with fail
   go_ret2
   exact ⟨by rw [H.out]; rfl, bl_⟩
 · have H : Hid (za7_ l = (116 :: (Lib.decDigits l.length ++ 58 :: l), 0)) := by show za7_ l = _; simp [za7_, h]
   have hd := zba_ l.length om_
   go_enter Tryz.func36, Tryz.ntmps36
   go_wp2_with (go_at_call 73; refine (zoi_ _ om_ om_ _ hG).mono ?_; rintro e w1 ⟨rfl, hb1⟩; rw [Int.toNat_natCast])
   go_ret2
   refine ⟨?_, bl_⟩
   rw [H.out]
   simp
theorem zol_ (l : List UInt8) (hl : l.length ≤ 9000000000000000000) (w : World) (hG : GOk w) :
  Calls Tryz.prog 110 #[.string (bs l)] w fun e w' => e = .returned (.tuple #[.string (bs (made l).1), .int .i64 (made l).2]) ∧ Below w.heap.size w w' := by
 cases h : right l with
 | true =>
   have H : Hid (made l = (l, 0)) := by show made l = _; simp [made, h]
   have HR := Lib.hid h
   clear h
   go_enter Tryz.func110, Tryz.ntmps110
   go_wp2_with (go_at_call 109; refine (zfx_ l hl _ hG).mono ?_; rintro e w1 ⟨rfl, hb1⟩; rw [HR.out])
   go_ret2
   exact ⟨by rw [H.out]; rfl, bl_⟩
 | false =>
   have H : Hid (made l = ([], 3)) := by show made l = _; simp [made, h]
   have HR := Lib.hid h
   clear h
   go_enter Tryz.func110, Tryz.ntmps110
   go_wp2_with (go_at_call 109; refine (zfx_ l hl _ hG).mono ?_; rintro e w1 ⟨rfl, hb1⟩; rw [HR.out])
   go_ret2
   exact ⟨by rw [H.out]; rfl, bl_⟩
def zcV_ (hd : List UInt8) (ls : List (List UInt8)) : List UInt8 × Int := if ls.all right = true then made (hd ++ cat ls) else ([], 10)
theorem zom_ (hd : List UInt8) (ls : List (List UInt8)) (g cap : Nat) (hhd : hd.length ≤ 100) (hls : ∀ x ∈ ls, x.length ≤ 9000000000000000000) (hn : ls.length ≤ 32) (w : World) (hg : g < w.heap.size)
  (hc : ∀ j x, ls[j]? = some x → w.cell? ⟨g, j, none⟩ = some (.string (bs x))) (hG : GOk w) :
  Calls Tryz.prog 59 #[.string (bs hd), .slice (some ⟨g, 0, none⟩) ls.length cap] w fun e w' => e = .returned (.tuple #[.string (bs (zcV_ hd ls).1), .int .i64 (zcV_ hd ls).2]) ∧ Below w.heap.size w w' := by
 have HC := Lib.hid hc
 clear hc
 have HB0 := Lib.hid (zjc_ w)
 have HG := Lib.hid hG
 clear hG
 go_enter Tryz.func59, Tryz.ntmps59
 go_wp2_with (go_at_call 85; refine (zjb_ _ _ _ _ _ HB0.out so_ si_).mono ?_; rintro e w1 ⟨rfl, hB1, hb1⟩; rw [List.nil_append] at hB1)
 go_loopw [13] (fun iv wr => ∃ k : Nat, k ≤ ls.length ∧ iv = .int .i64 k ∧ Hid ((ls.take k).all right = true) ∧ Hid (IsB w.heap.size w.heap.size (hd ++ cat (ls.take k)) wr) ∧ Below w.heap.size w wr) (fun iv _ => ls.length - (intOf iv).toNat)
 case atStart => exact ⟨0, by omega, rfl, rfl, (by show IsB _ _ _ _; simpa [cat] using hB1), ((Below.refl _ _).alloc (Nat.le_refl _) _).trans hb1⟩
 case round =>
  obtain ⟨k, hk, rfl, hall, hB2, hbel⟩ := hrel
  have hfl := zhZ_ _ hall.out
  have hfl2 : (cat (ls.take k)).length ≤ 600000 := by rw [List.length_take] at hfl; omega
  clear hfl
  have hGr := Lib.hid (zcq_ HG.out hbel)
  have hsz := hbel.size
  by_cases hlt : k < ls.length
  · obtain ⟨x, hx⟩ : ∃ x, ls[k]? = some x := ⟨ls[k], by simp [hlt]⟩
    have hxl := hls x (List.mem_of_getElem? hx)
    have c0 := (hbel.cell (p := ⟨g, k, none⟩) hg).trans (HC.out k x hx)
    have HX := Lib.hid hx
    clear hx
    cases hr : right x with
    | false =>
      have HR := Lib.hid hr
      clear hr
      go_wp2_with (go_at_call 109; refine (zfx_ x hxl _ hGr.out).mono ?_; rintro e w2 ⟨rfl, hb2⟩; rw [HR.out])
      go_ret2
      exact ⟨by rw [show zcV_ hd ls = ([], 10) by simp [zcV_, zlh_ ls k x HX.out HR.out]]; rfl, bl_⟩
    | true =>
      have hxr := zaU_ hr
      have HR := Lib.hid hr
      clear hr
      go_wp2_with (first | (go_at_call 109; refine (zfx_ x hxl _ hGr.out).mono ?_; rintro e w2 ⟨rfl, hb2⟩; rw [HR.out]; have hB3 := Lib.hid (zoh_ hB2.out hb2); have hsz2 := hb2.size) | (go_at_call 85; refine (zjb_ _ _ _ _ _ hB3.out so_ om_).mono ?_; rintro e w3 ⟨rfl, hB4, hb3⟩))
      go_roundw
      case rel =>
       refine ⟨k + 1, by omega, by go_num, zlg_ ls k x HX.out hall.out HR.out, ?_, ?_⟩
       · rw [zlf_ ls k x HX.out, ← List.append_assoc]; exact hB4
       · have h2 : Below w.heap.size w w2 := bl_
         exact h2.trans hb3
      case measure => (show ls.length - ((k : Int) + 1).toNat < ls.length - (k : Int).toNat); omega
  · obtain rfl : k = ls.length := by omega
    have H : Hid (zcV_ hd ls = made (hd ++ cat ls)) := by
     show zcV_ hd ls = _
     have := hall.out
     rw [List.take_length] at this
     simp [zcV_, this]
    rw [List.take_length] at hfl2 hB2
    go_wp2_with (first | (go_at_call 87; refine (Tryz.Builder_String_any_k _ _ _ _ hB2.out om_).mono ?_; rintro e w2 ⟨rfl, _, hb2, _⟩; have h2 : Below w.heap.size w w2 := hbel.trans hb2; have hG2 := Lib.hid (zcq_ HG.out h2); rw [zeY_]) | (go_at_call 110; refine (zol_ _ so_ _ hG2.out).mono ?_; rintro e w3 ⟨rfl, hb3⟩))
    go_ret2
    exact ⟨by rw [H.out]; rfl, bl_⟩
end Go.Proofs.YtembdkodajichaaGreatDoor
-- MkA
namespace Go.Proofs.YtembdkodajichaaGreatDoor
open Go.RowKit
theorem zon_ (c : UInt8) (x y : List UInt8) : zcV_ [c] [x, y] = twoT c x y := by
 unfold zcV_ twoT
 simp [cat]
theorem zoo_ {w : World} {x y : List UInt8} {T : Nat} : ∀ (j : Nat) (z : List UInt8), [x, y][j]? = some z → (w.alloc (.cells #[.string (bs x), .string (bs y)] T)).cell? ⟨w.heap.size, j, none⟩ = some (.string (bs z)) := by
 intro j z h
 rw [z0_ (y8_ w _)]
 match j, h with
 | 0, h => simp at h; subst h; rfl
 | 1, h => simp at h; subst h; rfl
 | _ + 2, h => simp at h
theorem zop_ (x y : List UInt8) (hx : x.length ≤ 9000000000000000000) (hy : y.length ≤ 9000000000000000000) (w : World) (hG : GOk w) :
  Calls Tryz.prog 25 #[.string (bs x), .string (bs y)] w fun e w' => e = .returned (.tuple #[.string (bs (twoT 83 x y).1), .int .i64 (twoT 83 x y).2]) ∧ Below w.heap.size w w' := by
 have H := Lib.hid (zon_ 83 x y)
 have HC := Lib.hid (zoo_ (w := w) (x := x) (y := y) (T := 29))
 go_enter Tryz.func25, Tryz.ntmps25
 go_wp2_with (go_at_call 59; refine (zom_ [83] [x, y] _ _ si_ so_ si_ _ si_ HC.out (zbP_ hG _)).mono ?_; rintro e w1 ⟨rfl, hb1⟩)
 go_ret2
 exact ⟨by rw [← H.out]; rfl, bl_⟩
/-! Public keys. -/
theorem zgO_ {x : List UInt8} {s : Sh} (h : rt x = some s) : s.op = head x := by
 unfold rt at h
 split at h
 · split at h
   · rename_i y hy
     split at h
     · simp at h; subst h; exact (za6_ _ _ _ hy).2.2.2.2
     · simp at h
   · simp at h
 · simp at h
def zgP_ (n : Nat) : Prop := ∀ (x : List UInt8) (w : World), x.length ≤ n → right x = true → GOk w →
 Calls Tryz.prog 80 #[.string (bs x)] w fun e w' => e = .returned (.string (bs (w4_ x))) ∧ Below w.heap.size w w'
theorem zoq_ (c : UInt8) (r : List UInt8) (hr : right (c :: r) = true) (h1 : c.toNat ≠ 86) (h2 : c.toNat ≠ 75) (w : World) :
  Calls Tryz.prog 80 #[.string (bs (c :: r))] w fun e w' => e = .returned (.string (bs (w4_ (c :: r)))) ∧ Below w.heap.size w w' := by
 have HK : Hid (w4_ (c :: r) = 80 :: c :: r) := by
  show w4_ _ = _
  rw [zdz_]
  cases hrt : rt (c :: r) with
  | none => rfl
  | some s =>
    have ho : s.op = c := by rw [zgO_ hrt]; rfl
    simp only [ho]
    rw [if_neg h1, if_neg h2]
 have hx := zaU_ hr
 have b1 : (((c.toNat : Nat) : Int) != 86) = true := by simp; omega
 have b2 : (((c.toNat : Nat) : Int) != 75) = true := by simp; omega
 have hr0 : (0 : Int) ≤ (r.length : Int) := by omega
 have hr1 : r.length ≤ 20000 := by simp at hx; omega
 clear h1 h2 hr hx
 go_enter Tryz.func80, Tryz.ntmps80
 go_wp2
 go_ret
 exact ⟨by rw [HK.out]; rfl, bl_⟩
theorem zor_ (n : Nat) (ih : zgP_ n) (c : UInt8) (r : List UInt8) (hn : (c :: r).length ≤ n + 1) (s : Sh) (hr : rt (c :: r) = some s) (hc : c.toNat = 86) (w : World) (hG : GOk w) :
  Calls Tryz.prog 80 #[.string (bs (c :: r))] w fun e w' => e = .returned (.string (bs (w4_ (c :: r)))) ∧ Below w.heap.size w w' := by
 have ho : s.op.toNat = 86 := by rw [zgO_ hr]; exact hc
 obtain ⟨a, b, hk, hl, ha, hb⟩ := zcw_ hr (.inl ho)
 have HK : Hid (w4_ (c :: r) = 87 :: (w4_ a ++ w4_ b)) := by
  show w4_ _ = _
  rw [zdz_, hr]
  simp only [ho, if_true, hk, List.getD_cons_zero, List.getD_cons_succ]
 have hxl := zaU_ (show right (c :: r) = true by simp [right, hr])
 have ha1 := zaU_ ha
 have hb1 := zaU_ hb
 have hka := zdc_ ha1.1
 have hkb := zdc_ hb1.1
 have HA := Lib.hid ha
 have HB := Lib.hid hb
 have HR := Lib.hid hr
 have HKS := Lib.hid hk
 have hr0 : (0 : Int) ≤ (r.length : Int) := by omega
 have hr1 : r.length ≤ 20000 := by simp at hxl; omega
 have b0 : (((c.toNat : Nat) : Int) != 86) = false := by simp; omega
 have b1 : (((s.op.toNat : Nat) : Int) == 86) = true := by simp [ho]
 have s2 : ¬ 9223372036854775807 < (w4_ a).length + 1 + (w4_ b).length := by omega
 have s1 : ¬ 9223372036854775807 < 1 + (w4_ a).length := by omega
 have hla : a.length ≤ n := by simp at hl hn; omega
 have hlb : b.length ≤ n := by simp at hl hn; omega
 have HG := Lib.hid hG
 clear hr ho hc hk ha hb hka hkb hG hxl
 go_enter Tryz.func80, Tryz.ntmps80
 go_wp2_with (go_at_call 72; refine (zdF_ (c :: r) so_ _ HG.out).mono ?_; rintro e w1 hp; rw [HR.out] at hp; obtain ⟨ad, kn, kc, rfl, hown, hbo⟩ := hp; rw [HKS.out] at hown; obtain ⟨g, cap, hv, hgb, hgw, hcap, hcap2, hcell⟩ := zbv_ hown si_; injection hv with hv1 hv2 hv3; subst hv1 hv2 hv3; have c0 := hcell 0 (.string (bs a)) rfl; have c1 := hcell 1 (.string (bs b)) rfl; have HG1 := Lib.hid (zcq_ HG.out hbo); clear hcell hown)
 go_region_held3 (fun w' => w'.cell? ⟨w1.heap.size, 3, none⟩ = some (.slice (some ⟨g, 0, none⟩) 2 kc) ∧ w'.cell? ⟨g, 0, none⟩ = some (.string (bs a)) ∧ w'.cell? ⟨g, 1, none⟩ = some (.string (bs b)) ∧ GOk w')
  (first
    | (refine ⟨?_, ?_, ?_, ?_⟩
       · go_keep
       · go_keep
       · go_keep
       · exact zdU_ (zbP_ HG1.out _))
    | (go_split_ands
       refine ⟨?_, ?_, ?_, ?_⟩
       · exact (hbk.cell (World.block_lt_of_cell? _ _ as_)).trans as_
       · exact (hbk.cell (World.block_lt_of_cell? _ _ as_)).trans as_
       · exact (hbk.cell (World.block_lt_of_cell? _ _ as_)).trans as_
       · exact zcq_ as_ hbk))
  ((go_at_call 80; go_split_ands; refine (ih _ _ as_ (by first | exact HA.out | exact HB.out) as_).mono ?_; rintro e wk ⟨rfl, hbk⟩))
 all_goals
  go_wp2
  go_ret
  exact ⟨by rw [HK.out]; rfl, bl_⟩
theorem zos_ (n : Nat) (ih : zgP_ n) (c : UInt8) (r : List UInt8) (hn : (c :: r).length ≤ n + 1) (s : Sh) (hr : rt (c :: r) = some s) (hc : c.toNat = 75) (w : World) (hG : GOk w) :
  Calls Tryz.prog 80 #[.string (bs (c :: r))] w fun e w' => e = .returned (.string (bs (w4_ (c :: r)))) ∧ Below w.heap.size w w' := by
 have ho : s.op.toNat = 75 := by rw [zgO_ hr]; exact hc
 obtain ⟨a, b, hk, hl, ha, hb⟩ := zcw_ hr (.inr ho)
 have HK : Hid (w4_ (c :: r) = 76 :: (w4_ a ++ b)) := by
  show w4_ _ = _
  rw [zdz_, hr]
  simp only [ho, hk, List.getD_cons_zero, List.getD_cons_succ]
  rfl
 have hxl := zaU_ (show right (c :: r) = true by simp [right, hr])
 have ha1 := zaU_ ha
 have hb1 := zaU_ hb
 have hka := zdc_ ha1.1
 have hkb := zdc_ hb1.1
 have HA := Lib.hid ha
 have HB := Lib.hid hb
 have HR := Lib.hid hr
 have HKS := Lib.hid hk
 have hr0 : (0 : Int) ≤ (r.length : Int) := by omega
 have hr1 : r.length ≤ 20000 := by simp at hxl; omega
 have b0 : (((c.toNat : Nat) : Int) != 86) = true := by simp; omega
 have b3 : (((c.toNat : Nat) : Int) != 75) = false := by simp; omega
 have b1 : (((s.op.toNat : Nat) : Int) == 86) = false := by simp [ho]
 have s2 : ¬ 9223372036854775807 < (w4_ a).length + 1 + b.length := by omega
 have s1 : ¬ 9223372036854775807 < 1 + (w4_ a).length := by omega
 have hla : a.length ≤ n := by simp at hl hn; omega
 have hlb : b.length ≤ n := by simp at hl hn; omega
 have HG := Lib.hid hG
 clear hr ho hc hk ha hb hka hkb hG hxl
 go_enter Tryz.func80, Tryz.ntmps80
 go_wp2_with (go_at_call 72; refine (zdF_ (c :: r) so_ _ HG.out).mono ?_; rintro e w1 hp; rw [HR.out] at hp; obtain ⟨ad, kn, kc, rfl, hown, hbo⟩ := hp; rw [HKS.out] at hown; obtain ⟨g, cap, hv, hgb, hgw, hcap, hcap2, hcell⟩ := zbv_ hown si_; injection hv with hv1 hv2 hv3; subst hv1 hv2 hv3; have c0 := hcell 0 (.string (bs a)) rfl; have c1 := hcell 1 (.string (bs b)) rfl; have HG1 := Lib.hid (zcq_ HG.out hbo); clear hcell hown)
 go_region_held3 (fun w' => w'.cell? ⟨w1.heap.size, 3, none⟩ = some (.slice (some ⟨g, 0, none⟩) 2 kc) ∧ w'.cell? ⟨g, 0, none⟩ = some (.string (bs a)) ∧ w'.cell? ⟨g, 1, none⟩ = some (.string (bs b)) ∧ GOk w')
  (first
    | (refine ⟨?_, ?_, ?_, ?_⟩
       · go_keep
       · go_keep
       · go_keep
       · exact zdU_ (zbP_ HG1.out _))
    | (go_split_ands
       refine ⟨?_, ?_, ?_, ?_⟩
       · exact (hbk.cell (World.block_lt_of_cell? _ _ as_)).trans as_
       · exact (hbk.cell (World.block_lt_of_cell? _ _ as_)).trans as_
       · exact (hbk.cell (World.block_lt_of_cell? _ _ as_)).trans as_
       · exact zcq_ as_ hbk))
  ((go_at_call 80; go_split_ands; refine (ih _ _ as_ (by first | exact HA.out | exact HB.out) as_).mono ?_; rintro e wk ⟨rfl, hbk⟩))
 all_goals
  go_wp2
  go_ret
  exact ⟨by rw [HK.out]; rfl, bl_⟩
theorem zgQ_ : ∀ n, zgP_ n
 | 0 => fun x w h0 h1 _ => by have := (zaU_ h1).1; omega
 | n + 1 => fun x w h0 h1 hG => by
   cases hr : rt x with
   | none => simp [right, hr] at h1
   | some s =>
     match x, h0, h1, hr with
     | [], _, h1, _ => have := (zaU_ h1).1; simp at this
     | c :: r, h0, h1, hr =>
       by_cases h86 : c.toNat = 86
       · exact zor_ n (zgQ_ n) c r h0 s hr h86 w hG
       · by_cases h75 : c.toNat = 75
         · exact zos_ n (zgQ_ n) c r h0 s hr h75 w hG
         · exact zoq_ c r h1 h86 h75 w
theorem tKey (x : List UInt8) (h : right x = true) (w : World) (hG : GOk w) :
  Calls Tryz.prog 80 #[.string (bs x)] w fun e w' => e = .returned (.string (bs (w4_ x))) ∧ Below w.heap.size w w' :=
 zgQ_ x.length x w (Nat.le_refl _) h hG
end Go.Proofs.YtembdkodajichaaGreatDoor
