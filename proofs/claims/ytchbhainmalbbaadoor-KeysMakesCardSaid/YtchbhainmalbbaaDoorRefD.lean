/- The reference reads a term: the ways on which no parts are read. -/
import Derived.Test.YtchbhainmalbbaaDoorRefC
namespace Go.Proofs.YtchbhainmalbbaaDoor
open Go.RowKit

def kidsOff (x : Sh) (a : Nat) : List Nat := if x.op.toNat = 110 ∨ x.op.toNat = 116 then [] else offsL (a + x.len - sumL x.kids) x.kids
def frm (x : Sh) (a : Nat) : Nat := if x.op.toNat = 116 then a + x.len - x.n else 0

/-- What the reference's 'read' hands back. -/
def RdPost (a : Nat) (w : World) (o : Option Sh) (e : Ending) (w' : World) : Prop :=
  match o with
  | none => ∃ v1 v2 v3, e = .returned (.agg #[.int .i64 (-1), .int .i64 v1, .int .u64 v2, .int .i64 v3, .slice none 0 0]) ∧ Below w.heap.size w w'
  | some x => ∃ ad n cap, e = .returned (.agg #[.int .i64 (a + x.len : Nat), .int .i64 x.deep, .int .u64 x.n, .int .i64 (frm x a), .slice ad n cap]) ∧
      w'.ownsRow w.heap.size 3 1 (.slice ad n cap) (kidsOff x a).length ((kidsOff x a).map fun i : Nat => .int .i64 i) ∧ Below w.heap.size w w'

theorem rdPost_none {a : Nat} {w w' : World} {v1 v2 v3 : Int} (hb : Below w.heap.size w w') : RdPost a w none (.returned (.agg #[.int .i64 (-1), .int .i64 v1, .int .u64 v2, .int .i64 v3, .slice none 0 0])) w' :=
  ⟨_, _, _, rfl, hb⟩

theorem rdPost_some {a : Nat} {w w' : World} {x : Sh} {v0 v1 v2 v3 : Int} {kv : Value} (h0 : v0 = (a + x.len : Nat)) (h1 : v1 = x.deep) (h2 : v2 = x.n) (h3 : v3 = frm x a)
    (hk : w'.ownsRow w.heap.size 3 1 kv (kidsOff x a).length ((kidsOff x a).map fun i : Nat => .int .i64 i)) (hb : Below w.heap.size w w') :
    RdPost a w (some x) (.returned (.agg #[.int .i64 v0, .int .i64 v1, .int .u64 v2, .int .i64 v3, kv])) w' := by
  subst h0 h1 h2 h3
  have hs : ∃ ad n cap, kv = .slice ad n cap := by
    rcases hk.2 with ⟨h, _⟩ | ⟨g, cap, _, h, _⟩ <;> exact ⟨_, _, _, h⟩
  obtain ⟨ad, n, cap, rfl⟩ := hs
  exact ⟨ad, n, cap, rfl, hk, hb⟩
theorem rdPost_leaf {a : Nat} {w w' : World} {x : Sh} {v0 v1 v2 v3 : Int} (hx : x.op.toNat = 110 ∨ x.op.toNat = 116) (h0 : v0 = (a + x.len : Nat)) (h1 : v1 = x.deep) (h2 : v2 = x.n) (h3 : v3 = frm x a)
    (hb : Below w.heap.size w w') :
    RdPost a w (some x) (.returned (.agg #[.int .i64 v0, .int .i64 v1, .int .u64 v2, .int .i64 v3, .slice none 0 0])) w' := by
  have e : kidsOff x a = [] := by simp [kidsOff, hx]
  exact rdPost_some h0 h1 h2 h3 (by rw [e]; exact ⟨rfl, Or.inl ⟨rfl, rfl⟩⟩) hb

set_option maxHeartbeats 1000000 in
theorem refRead0 (l : List UInt8) (a d : Int) (h0 : 0 ≤ a) (h1 : a ≤ l.length) (hl : l.length ≤ 9000000000000000000) (hd : d = 0 ∨ a = l.length) (w : World) :
    Calls Tryd.prog 87 #[.string (bs l), .int .i64 a, .int .i64 d] w (RdPost a.toNat w none) := by
  by_cases h : a = l.length
  · subst h
    go_enter Tryd.func87, Tryd.ntmps87
    go_wp2_with (go_at_call 110; refine (refNone _).mono ?_; rintro e w1 ⟨rfl, hb⟩; (obtain ⟨hcw, hfw⟩ := bcell hb; have hz := hb.size; try simp at hz))
    exact bodyPost_ret (v := .agg #[.int .i64 (-1), .int .i64 0, .int .u64 0, .int .i64 0, .slice none 0 0]) (by simp [results, Tryd.results87, go_sem, hcw, hz]) rfl (rdPost_none (by (repeat' (first | with_reducible exact Below.refl _ _ | with_reducible assumption | with_reducible refine below_alloc ?_ ?_ _ | with_reducible refine Below.setCell ?_ ?_ _ | with_reducible refine Below.drew ?_ | with_reducible refine below_drewN ?_ _ | with_reducible refine below_step (by assumption) ?_ ?_ | (with_reducible refine Below.trans ?_ (Below.mono (by assumption) ?_)) | exact Nat.le_refl _ | (simp; done) | (simp; omega) | omega))))
  · obtain rfl : d = 0 := by omega
    clear hd
    have h2 : a < l.length := by omega
    clear h h1
    go_enter Tryd.func87, Tryd.ntmps87
    go_wp2_with (go_at_call 110; refine (refNone _).mono ?_; rintro e w1 ⟨rfl, hb⟩; (obtain ⟨hcw, hfw⟩ := bcell hb; have hz := hb.size; try simp at hz))
    exact bodyPost_ret (v := .agg #[.int .i64 (-1), .int .i64 0, .int .u64 0, .int .i64 0, .slice none 0 0]) (by simp [results, Tryd.results87, go_sem, hcw, hz]) rfl (rdPost_none (by (repeat' (first | with_reducible exact Below.refl _ _ | with_reducible assumption | with_reducible refine below_alloc ?_ ?_ _ | with_reducible refine Below.setCell ?_ ?_ _ | with_reducible refine Below.drew ?_ | with_reducible refine below_drewN ?_ _ | with_reducible refine below_step (by assumption) ?_ ?_ | (with_reducible refine Below.trans ?_ (Below.mono (by assumption) ?_)) | exact Nat.le_refl _ | (simp; done) | (simp; omega) | omega))))
def rdFin (c : UInt8) (k : Nat) : Option (List (List UInt8) × Nat × Nat) → Option Sh
  | none => none
  | some (ks, dp, len) => if fitsB c ks then some ⟨c, 1 + k + len, dp + 1, 0, [], ks⟩ else none

theorem rd_at {l : List UInt8} {i : Nat} (h : i < l.length) (d : Nat) : rd (d + 1) (l.drop i) =
    if l[i].toNat = 110 then (num 59 (l.drop (i + 1))).map fun (n, k) => ⟨l[i], 1 + k, 1, n, [], []⟩
    else if l[i].toNat = 116 then
      match num 58 (l.drop (i + 1)) with
      | none => none
      | some (n, k) => if 4096 < n ∨ l.length - (i + 1) - k < n then none else some ⟨l[i], 1 + k + n, 1, n, (l.drop (i + 1 + k)).take n, []⟩
    else
      match cnt l[i] (l.drop (i + 1)) with
      | none => none
      | some (m, k) => rdFin l[i] k (kidsBy (rd d) m (l.drop (i + 1 + k))) := by
  rw [List.drop_eq_getElem_cons h, rd]
  simp only [← UInt8.toNat_inj, UInt8.reduceToNat, List.length_drop, List.drop_drop]
  rfl

set_option maxHeartbeats 1000000 in
theorem refReadName (l : List UInt8) (i d : Nat) (hi : i < l.length) (hl : l.length ≤ 9000000000000000000) (hc : l[i].toNat = 110) (D : Int) (hD : 1 ≤ D) (w : World) :
    Calls Tryd.prog 87 #[.string (bs l), .int .i64 i, .int .i64 D] w (RdPost i w (rd (d + 1) (l.drop i))) := by
  have hD0 : (D == 0) = false := by simp; omega
  rw [rd_at hi, if_pos hc]
  have et : ((i : Int) + 1).toNat = i + 1 := by omega
  have Ht := Lib.hid et
  clear et
  cases hn : num 59 (l.drop (i + 1)) with
  | none =>
    have Hn := Lib.hid hn
    clear hn
    go_enter Tryd.func87, Tryd.ntmps87
    go_wp2_with (go_at_call 111; refine (refNumberI _ _ _ 59 (by omega) (by omega) rfl hl _).mono ?_; rintro e w1 ⟨rfl, rfl⟩; rw [Ht.out, Hn.out]; simp only [numV])
    exact bodyPost_ret (v := .agg #[.int .i64 (-1), .int .i64 1, .int .u64 0, .int .i64 0, .slice none 0 0]) (by simp [results, Tryd.results87, go_sem]) rfl (rdPost_none (by (repeat' (first | with_reducible exact Below.refl _ _ | with_reducible assumption | with_reducible refine below_alloc ?_ ?_ _ | with_reducible refine Below.setCell ?_ ?_ _ | with_reducible refine Below.drew ?_ | with_reducible refine below_drewN ?_ _ | with_reducible refine below_step (by assumption) ?_ ?_ | (with_reducible refine Below.trans ?_ (Below.mono (by assumption) ?_)) | exact Nat.le_refl _ | (simp; done) | (simp; omega) | omega))))
  | some x =>
    obtain ⟨n, k⟩ := x
    have Hn := Lib.hid hn
    clear hn
    go_enter Tryd.func87, Tryd.ntmps87
    go_wp2_with (go_at_call 111; refine (refNumberI _ _ _ 59 (by omega) (by omega) rfl hl _).mono ?_; rintro e w1 ⟨rfl, rfl⟩; rw [Ht.out, Hn.out]; simp only [numV])
    exact bodyPost_ret (v := .agg #[.int .i64 ((i : Int) + 1 + k), .int .i64 1, .int .u64 n, .int .i64 0, .slice none 0 0]) (by simp [results, Tryd.results87, go_sem]) rfl
      (rdPost_leaf (.inl hc) (by simp; omega) rfl rfl (by simp [frm, hc]) (by (repeat' (first | with_reducible exact Below.refl _ _ | with_reducible assumption | with_reducible refine below_alloc ?_ ?_ _ | with_reducible refine Below.setCell ?_ ?_ _ | with_reducible refine Below.drew ?_ | with_reducible refine below_drewN ?_ _ | with_reducible refine below_step (by assumption) ?_ ?_ | (with_reducible refine Below.trans ?_ (Below.mono (by assumption) ?_)) | exact Nat.le_refl _ | (simp; done) | (simp; omega) | omega))))

set_option maxHeartbeats 2000000 in
theorem refReadText (l : List UInt8) (i d : Nat) (hi : i < l.length) (hl : l.length ≤ 9000000000000000000) (hc : l[i].toNat = 116) (D : Int) (hD : 1 ≤ D) (w : World) :
    Calls Tryd.prog 87 #[.string (bs l), .int .i64 i, .int .i64 D] w (RdPost i w (rd (d + 1) (l.drop i))) := by
  have hD0 : (D == 0) = false := by simp; omega
  rw [rd_at hi, if_neg (by omega), if_pos hc]
  have et : ((i : Int) + 1).toNat = i + 1 := by omega
  have Ht := Lib.hid et
  clear et
  cases hn : num 58 (l.drop (i + 1)) with
  | none =>
    have Hn := Lib.hid hn
    clear hn
    go_enter Tryd.func87, Tryd.ntmps87
    go_wp2_with (first | (go_at_call 111; refine (refNumberI _ _ _ 58 (by omega) (by omega) rfl hl _).mono ?_; rintro e w1 ⟨rfl, rfl⟩; rw [Ht.out, Hn.out]; simp only [numV]) | (go_at_call 110; refine (refNone _).mono ?_; rintro e w1 ⟨rfl, hb⟩; (obtain ⟨hcw, hfw⟩ := bcell hb; have hz := hb.size; try simp at hz)))
    exact bodyPost_ret (v := .agg #[.int .i64 (-1), .int .i64 0, .int .u64 0, .int .i64 0, .slice none 0 0]) (by simp [results, Tryd.results87, go_sem, hcw, hz]) rfl (rdPost_none (by (repeat' (first | with_reducible exact Below.refl _ _ | with_reducible assumption | with_reducible refine below_alloc ?_ ?_ _ | with_reducible refine Below.setCell ?_ ?_ _ | with_reducible refine Below.drew ?_ | with_reducible refine below_drewN ?_ _ | with_reducible refine below_step (by assumption) ?_ ?_ | (with_reducible refine Below.trans ?_ (Below.mono (by assumption) ?_)) | exact Nat.le_refl _ | (simp; done) | (simp; omega) | omega))))
  | some x =>
    obtain ⟨n, k⟩ := x
    obtain ⟨hk2, hkl, hnb⟩ := num_bound hn
    rw [List.length_drop] at hkl
    have hkl' : (i : Int) + 1 + k ≤ l.length := by omega
    have Hn := Lib.hid hn
    clear hn hkl
    simp only []
    by_cases hbad : 4096 < n ∨ l.length - (i + 1) - k < n
    · rw [if_pos hbad]
      by_cases h4 : 4096 < n
      · clear hbad
        go_enter Tryd.func87, Tryd.ntmps87
        go_wp2_with (first | (go_at_call 111; refine (refNumberI _ _ _ 58 (by omega) (by omega) rfl hl _).mono ?_; rintro e w1 ⟨rfl, rfl⟩; rw [Ht.out, Hn.out]; simp only [numV]) | (go_at_call 110; refine (refNone _).mono ?_; rintro e w1 ⟨rfl, hb⟩; (obtain ⟨hcw, hfw⟩ := bcell hb; have hz := hb.size; try simp at hz)))
        exact bodyPost_ret (v := .agg #[.int .i64 (-1), .int .i64 0, .int .u64 0, .int .i64 0, .slice none 0 0]) (by simp [results, Tryd.results87, go_sem, hcw, hz]) rfl (rdPost_none (by (repeat' (first | with_reducible exact Below.refl _ _ | with_reducible assumption | with_reducible refine below_alloc ?_ ?_ _ | with_reducible refine Below.setCell ?_ ?_ _ | with_reducible refine Below.drew ?_ | with_reducible refine below_drewN ?_ _ | with_reducible refine below_step (by assumption) ?_ ?_ | (with_reducible refine Below.trans ?_ (Below.mono (by assumption) ?_)) | exact Nat.le_refl _ | (simp; done) | (simp; omega) | omega))))
      · have h5 : (l.length : Int) - ((i : Int) + 1 + k) < n := by omega
        clear hbad
        go_enter Tryd.func87, Tryd.ntmps87
        go_wp2_with (first | (go_at_call 111; refine (refNumberI _ _ _ 58 (by omega) (by omega) rfl hl _).mono ?_; rintro e w1 ⟨rfl, rfl⟩; rw [Ht.out, Hn.out]; simp only [numV]) | (go_at_call 110; refine (refNone _).mono ?_; rintro e w1 ⟨rfl, hb⟩; (obtain ⟨hcw, hfw⟩ := bcell hb; have hz := hb.size; try simp at hz)))
        exact bodyPost_ret (v := .agg #[.int .i64 (-1), .int .i64 0, .int .u64 0, .int .i64 0, .slice none 0 0]) (by simp [results, Tryd.results87, go_sem, hcw, hz]) rfl (rdPost_none (by (repeat' (first | with_reducible exact Below.refl _ _ | with_reducible assumption | with_reducible refine below_alloc ?_ ?_ _ | with_reducible refine Below.setCell ?_ ?_ _ | with_reducible refine Below.drew ?_ | with_reducible refine below_drewN ?_ _ | with_reducible refine below_step (by assumption) ?_ ?_ | (with_reducible refine Below.trans ?_ (Below.mono (by assumption) ?_)) | exact Nat.le_refl _ | (simp; done) | (simp; omega) | omega))))
    · rw [if_neg hbad]
      have h4 : n ≤ 4096 := by omega
      have h5 : (n : Int) ≤ (l.length : Int) - ((i : Int) + 1 + k) := by omega
      clear hbad
      go_enter Tryd.func87, Tryd.ntmps87
      go_wp2_with (first | (go_at_call 111; refine (refNumberI _ _ _ 58 (by omega) (by omega) rfl hl _).mono ?_; rintro e w1 ⟨rfl, rfl⟩; rw [Ht.out, Hn.out]; simp only [numV]) | (go_at_call 110; refine (refNone _).mono ?_; rintro e w1 ⟨rfl, hb⟩; (obtain ⟨hcw, hfw⟩ := bcell hb; have hz := hb.size; try simp at hz)))
      exact bodyPost_ret (v := .agg #[.int .i64 ((i : Int) + 1 + k + n), .int .i64 1, .int .u64 n, .int .i64 ((i : Int) + 1 + k), .slice none 0 0]) (by simp [results, Tryd.results87, go_sem]) rfl
        (rdPost_leaf (.inr hc) (by simp; omega) rfl rfl (by simp [frm, hc]; omega) (by (repeat' (first | with_reducible exact Below.refl _ _ | with_reducible assumption | with_reducible refine below_alloc ?_ ?_ _ | with_reducible refine Below.setCell ?_ ?_ _ | with_reducible refine Below.drew ?_ | with_reducible refine below_drewN ?_ _ | with_reducible refine below_step (by assumption) ?_ ?_ | (with_reducible refine Below.trans ?_ (Below.mono (by assumption) ?_)) | exact Nat.le_refl _ | (simp; done) | (simp; omega) | omega))))
end Go.Proofs.YtchbhainmalbbaaDoor
