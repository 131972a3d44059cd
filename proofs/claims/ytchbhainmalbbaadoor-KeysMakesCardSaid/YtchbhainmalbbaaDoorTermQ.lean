/- The program's reader of terms: a number that it reads. -/
import Derived.Test.YtchbhainmalbbaaDoorTermP
namespace Go.Proofs.YtchbhainmalbbaaDoor
open Go.RowKit

theorem gerr_drewN {w : World} (h : GErr w) (n : Nat) : GErr (w.drewN n) := h
theorem gerr_drew {w : World} (h : GErr w) : GErr w.drew := h

set_option maxRecDepth 100000 in
set_option maxHeartbeats 2000000 in
theorem tNumberGood (l : List UInt8) (b i n : Nat) (x : Int) (e : UInt8) (hx : x = e.toNat) (hi : i < l.length) (hl : l.length ≤ 20000) (w : World) (hR : RdAt w b l i) (hG : GErr w)
    (hk : Lib.indexByte (l.drop i) e = n) (hn1 : 1 ≤ n) (hn2 : n ≤ 19) (hin : i + n ≤ l.length) (h48 : l[i].toNat = 48 → n = 1) (hlo : 48 ≤ l[i].toNat) (hhi : l[i].toNat ≤ 57) :
    Calls Tryd.prog 147 #[.pointer (some ⟨b, 0, none⟩), .int .u8 x] w
      (NumPost b l i w ((parsed ((l.drop i).take n)).map fun v => (v, n + 1))) := by
  subst hx
  have f0 := blk_cell hR
  have f1 := blk_free hR
  have i1 : (i : Int) ≤ l.length := by omega
  have i2 : (0 : Int) ≤ (i : Int) := by omega
  have i3 : (i : Int) < l.length := by omega
  have ht : List.take (l.length - i) (List.drop i l) = List.drop i l := List.take_of_length_le (by simp)
  have d1 : decide ((n : Int) < 1) = false := by simp; omega
  have d2 : decide (19 < (n : Int)) = false := by simp; omega
  have d4 : decide (((l[i].toNat : Nat) : Int) < 48) = false := by simp; omega
  have d5 : decide (57 < ((l[i].toNat : Nat) : Int)) = false := by simp; omega
  have HR := Lib.hid hR
  have HG := Lib.hid hG
  clear hR hG
  by_cases c3 : l[i].toNat = 48
  · have d3 : decide (1 < (n : Int)) = false := by have := h48 c3; simp; omega
    have hb3 : (((l[i].toNat : Nat) : Int) == 48) = true := by simp [c3]
    clear h48 c3
    go_enter Tryd.func147, Tryd.ntmps147
    go_wp2
    go_quiet ((go_at_call 149; exact Calls.quiet_of_same (idxByte _ _ e rfl _)))
    go_wp2
    go_quiet (fail)
    go_wp2
    rw [hk]
    have e1 : IntKind.i64.wrap ((i : Int) + n) = (i : Int) + n := IntWalk.i64_in _ (by omega)
    have e2 : ((i : Int) + n).toNat = i + n := by omega
    have e3 : (i : Int) ≤ (i : Int) + n := by omega
    have e4 : (i : Int) + n ≤ l.length := by omega
    have e5 : (0 : Int) ≤ (i : Int) + n := by omega
    have hpl : ((l.drop i).take n).length ≤ 19 := by rw [List.length_take]; omega
    have hph : 48 ≤ (head ((l.drop i).take n)).toNat := by
      have : head ((l.drop i).take n) = l[i] := by
        rw [List.drop_eq_getElem_cons hi, show n = (n - 1) + 1 by omega]; rfl
      rw [this]; exact hlo
    cases ho : parsed ((l.drop i).take n) with
    | none =>
      have HO := Lib.hid ho
      clear ho
      go_region_held3 (fun w' => w'.cell? ⟨b, 0, none⟩ = some (.string (bs l)) ∧ w'.cell? ⟨b, 1, none⟩ = some (.int .i64 i))
        (first | go_keep | (go_split_ands; refine ⟨?_, ?_⟩ <;> exact (hbk.cell (World.block_lt_of_cell? _ _ (by assumption))).trans (by assumption)))
        ((go_at_call 150; refine (tParse _ hpl hph _ (gerr_drewN HG.out _)).mono ?_; rintro en wk hbk; rw [HO.out] at hbk; obtain ⟨hbk, v, T, N, rfl⟩ := hbk; have HRk : Hid (RdAt wk b l i) := blk_below (show (w.drewN _).heap[b]? = _ from HR.out) hbk (blk_lt (show (w.drewN _).heap[b]? = _ from HR.out)); have f2 := blk_free HRk.out))
      go_wp2
      go_region
      all_goals
        go_wp2
        go_ret2
        rw [HO.out]
        exact ⟨by (repeat' (first | with_reducible exact gb_refl _ _ | with_reducible assumption | with_reducible refine gb_alloc ?_ _ | with_reducible refine gb_drewN ?_ _ | with_reducible refine gb_drew ?_ | with_reducible refine gb_set ?_ (.inl rfl) _ | (with_reducible refine gb_set ?_ (.inr ?_) _) | with_reducible refine gb_gb ?_ (by assumption) | with_reducible refine gb_below ?_ (by assumption) | exact Nat.le_refl _ | (simp; done) | (simp; omega) | omega)), v, (i : Int) + ((n : Int) + 1), rfl, blk_set HRk.out 1 _⟩
    | some v =>
      have HO := Lib.hid ho
      clear ho
      go_region_held3 (fun w' => w'.cell? ⟨b, 0, none⟩ = some (.string (bs l)) ∧ w'.cell? ⟨b, 1, none⟩ = some (.int .i64 i))
        (first | go_keep | (go_split_ands; refine ⟨?_, ?_⟩ <;> exact (hbk.cell (World.block_lt_of_cell? _ _ (by assumption))).trans (by assumption)))
        ((go_at_call 150; refine (tParse _ hpl hph _ (gerr_drewN HG.out _)).mono ?_; rintro en wk hbk; rw [HO.out] at hbk; obtain ⟨hbk, rfl⟩ := hbk; have HRk : Hid (RdAt wk b l i) := blk_below (show (w.drewN _).heap[b]? = _ from HR.out) hbk (blk_lt (show (w.drewN _).heap[b]? = _ from HR.out)); have f2 := blk_free HRk.out))
      go_wp2
      go_region
      all_goals
        go_wp2
        go_ret2
        rw [HO.out]
        refine ⟨by (repeat' (first | with_reducible exact gb_refl _ _ | with_reducible assumption | with_reducible refine gb_alloc ?_ _ | with_reducible refine gb_drewN ?_ _ | with_reducible refine gb_drew ?_ | with_reducible refine gb_set ?_ (.inl rfl) _ | (with_reducible refine gb_set ?_ (.inr ?_) _) | with_reducible refine gb_gb ?_ (by assumption) | with_reducible refine gb_below ?_ (by assumption) | exact Nat.le_refl _ | (simp; done) | (simp; omega) | omega)), rfl, ?_⟩
        show RdAt _ b l ((i + (n + 1) : Nat) : Int)
        rw [show ((i + (n + 1) : Nat) : Int) = (i : Int) + ((n : Int) + 1) by omega]
        exact blk_set HRk.out 1 _
  · have hb3 : (((l[i].toNat : Nat) : Int) == 48) = false := by simp; omega
    clear h48 c3
    go_enter Tryd.func147, Tryd.ntmps147
    go_wp2
    go_quiet ((go_at_call 149; exact Calls.quiet_of_same (idxByte _ _ e rfl _)))
    go_wp2
    go_quiet (fail)
    go_wp2
    rw [hk]
    have e1 : IntKind.i64.wrap ((i : Int) + n) = (i : Int) + n := IntWalk.i64_in _ (by omega)
    have e2 : ((i : Int) + n).toNat = i + n := by omega
    have e3 : (i : Int) ≤ (i : Int) + n := by omega
    have e4 : (i : Int) + n ≤ l.length := by omega
    have e5 : (0 : Int) ≤ (i : Int) + n := by omega
    have hpl : ((l.drop i).take n).length ≤ 19 := by rw [List.length_take]; omega
    have hph : 48 ≤ (head ((l.drop i).take n)).toNat := by
      have : head ((l.drop i).take n) = l[i] := by
        rw [List.drop_eq_getElem_cons hi, show n = (n - 1) + 1 by omega]; rfl
      rw [this]; exact hlo
    cases ho : parsed ((l.drop i).take n) with
    | none =>
      have HO := Lib.hid ho
      clear ho
      go_region_held3 (fun w' => w'.cell? ⟨b, 0, none⟩ = some (.string (bs l)) ∧ w'.cell? ⟨b, 1, none⟩ = some (.int .i64 i))
        (first | go_keep | (go_split_ands; refine ⟨?_, ?_⟩ <;> exact (hbk.cell (World.block_lt_of_cell? _ _ (by assumption))).trans (by assumption)))
        ((go_at_call 150; refine (tParse _ hpl hph _ (gerr_drewN HG.out _)).mono ?_; rintro en wk hbk; rw [HO.out] at hbk; obtain ⟨hbk, v, T, N, rfl⟩ := hbk; have HRk : Hid (RdAt wk b l i) := blk_below (show (w.drewN _).heap[b]? = _ from HR.out) hbk (blk_lt (show (w.drewN _).heap[b]? = _ from HR.out)); have f2 := blk_free HRk.out))
      go_wp2
      go_region
      all_goals
        go_wp2
        go_ret2
        rw [HO.out]
        exact ⟨by (repeat' (first | with_reducible exact gb_refl _ _ | with_reducible assumption | with_reducible refine gb_alloc ?_ _ | with_reducible refine gb_drewN ?_ _ | with_reducible refine gb_drew ?_ | with_reducible refine gb_set ?_ (.inl rfl) _ | (with_reducible refine gb_set ?_ (.inr ?_) _) | with_reducible refine gb_gb ?_ (by assumption) | with_reducible refine gb_below ?_ (by assumption) | exact Nat.le_refl _ | (simp; done) | (simp; omega) | omega)), v, (i : Int) + ((n : Int) + 1), rfl, blk_set HRk.out 1 _⟩
    | some v =>
      have HO := Lib.hid ho
      clear ho
      go_region_held3 (fun w' => w'.cell? ⟨b, 0, none⟩ = some (.string (bs l)) ∧ w'.cell? ⟨b, 1, none⟩ = some (.int .i64 i))
        (first | go_keep | (go_split_ands; refine ⟨?_, ?_⟩ <;> exact (hbk.cell (World.block_lt_of_cell? _ _ (by assumption))).trans (by assumption)))
        ((go_at_call 150; refine (tParse _ hpl hph _ (gerr_drewN HG.out _)).mono ?_; rintro en wk hbk; rw [HO.out] at hbk; obtain ⟨hbk, rfl⟩ := hbk; have HRk : Hid (RdAt wk b l i) := blk_below (show (w.drewN _).heap[b]? = _ from HR.out) hbk (blk_lt (show (w.drewN _).heap[b]? = _ from HR.out)); have f2 := blk_free HRk.out))
      go_wp2
      go_region
      all_goals
        go_wp2
        go_ret2
        rw [HO.out]
        refine ⟨by (repeat' (first | with_reducible exact gb_refl _ _ | with_reducible assumption | with_reducible refine gb_alloc ?_ _ | with_reducible refine gb_drewN ?_ _ | with_reducible refine gb_drew ?_ | with_reducible refine gb_set ?_ (.inl rfl) _ | (with_reducible refine gb_set ?_ (.inr ?_) _) | with_reducible refine gb_gb ?_ (by assumption) | with_reducible refine gb_below ?_ (by assumption) | exact Nat.le_refl _ | (simp; done) | (simp; omega) | omega)), rfl, ?_⟩
        show RdAt _ b l ((i + (n + 1) : Nat) : Int)
        rw [show ((i + (n + 1) : Nat) : Int) = (i : Int) + ((n : Int) + 1) by omega]
        exact blk_set HRk.out 1 _

theorem tNumber (l : List UInt8) (b i : Nat) (x : Int) (e : UInt8) (he : e.toNat = 58 ∨ e.toNat = 59) (hx : x = e.toNat) (hi : i ≤ l.length) (hl : l.length ≤ 20000) (w : World) (hR : RdAt w b l i) (hG : GErr w) :
    Calls Tryd.prog 147 #[.pointer (some ⟨b, 0, none⟩), .int .u8 x] w (NumPost b l i w (num e (l.drop i))) := by
  have hge := idx_range (l.drop i) e
  by_cases h1 : Lib.indexByte (l.drop i) e = -1
  · rw [show num e (l.drop i) = none from num_absent e _ 0 0 (idx_none _ _ h1)]
    exact tNumberBad l b i x e hx hi hl w hR (.inl (by omega))
  · obtain ⟨n, hn⟩ := Int.eq_ofNat_of_zero_le (show 0 ≤ Lib.indexByte (l.drop i) e by omega)
    obtain ⟨p, q, hpq, hpl, hpe⟩ := idx_some _ _ n hn
    have hnum := num_prog e he p q hpe
    rw [← hpq] at hnum
    rw [hnum]
    have hlen : (l.drop i).length = n + 1 + q.length := by rw [hpq]; simp; omega
    rw [List.length_drop] at hlen
    have hil : i < l.length := by omega
    by_cases hbad : p.length < 1 ∨ 19 < p.length ∨ (head p).toNat = 48 ∧ 1 < p.length ∨ (head p).toNat < 48 ∨ 57 < (head p).toNat
    · have : progNum p = none := by unfold progNum; rw [if_pos hbad]
      rw [this]
      refine tNumberBad l b i x e hx hi hl w hR ?_
      rw [hn]
      by_cases hp0 : p.length < 1
      · exact .inl (by omega)
      · have hhd : head p = l[i] := by
          have h := List.drop_eq_getElem_cons hil
          rw [hpq] at h
          cases p with
          | nil => simp at hp0
          | cons c r => simp only [List.cons_append, List.cons.injEq] at h; exact h.1
        rw [hhd] at hbad
        rcases hbad with h | h | h | h
        · omega
        · exact .inr (.inl (by omega))
        · exact .inr (.inr (.inl ⟨hil, h.1, by omega⟩))
        · exact .inr (.inr (.inr ⟨hil, h⟩))
    · have hpn : progNum p = parsed p := by unfold progNum; rw [if_neg hbad]; rfl
      have hhd : head p = l[i] := by
        have h := List.drop_eq_getElem_cons hil
        rw [hpq] at h
        cases p with
        | nil => simp at hbad
        | cons c r => simp only [List.cons_append, List.cons.injEq] at h; exact h.1
      rw [hhd] at hbad
      have htk : (l.drop i).take n = p := by rw [hpq, ← hpl]; simp
      have := tNumberGood l b i n x e hx hil hl w hR hG hn (by omega) (by omega) (by omega) (by omega) (by omega) (by omega)
      rw [htk] at this
      rw [hpn, hpl]
      exact this

end Go.Proofs.YtchbhainmalbbaaDoor
