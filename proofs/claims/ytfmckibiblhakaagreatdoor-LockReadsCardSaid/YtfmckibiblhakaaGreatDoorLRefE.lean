/- The reference's locks: read. -/
import Derived.Test.YtfmckibiblhakaaGreatDoorLRefT
import Derived.Test.YtfmckibiblhakaaGreatDoorLRefA
import Derived.Test.YtfmckibiblhakaaGreatDoorLockM
import Derived.Maps.AppendAt
set_option linter.unusedSimpArgs false
set_option linter.unusedVariables false
namespace Go.Proofs.YtfmckibiblhakaaGreatDoor
open Go.RowKit

def RRPost (n : Nat) (w : World) (o : Option (LT × List UInt8 × Nat)) (e : Ending) (w' : World) : Prop := GL [] w w' ∧
  match o with
  | none => ∃ (k nn rr : Int) (t : List UInt8) (ad : Option Addr) (m c : Nat), e = .returned (.tuple #[.agg #[.int .u8 k, .string (bs t), .int .i64 nn, .slice ad m c], .int .i64 (-1), .int .i64 rr])
  | some (x, s, r) => ∃ v, e = .returned (.tuple #[v, .int .i64 ((n - s.length : Nat) : Int), .int .i64 r]) ∧ LockIn (fun b => w.heap.size ≤ b) w' x v
def kidsR (k : Int) (tot : Option (List LT × List UInt8 × Nat)) : Option (LT × List UInt8 × Nat) := tot.map fun z => (.mk k [] 0 z.1, z.2.1, z.2.2)
def RRIH (f : Nat) : Prop := ∀ (s : List UInt8) (a room : Nat) (w : World), room < f → room ≤ 64 → a ≤ s.length → s.length ≤ 100000000000 →
    Calls Tryz.prog 83 #[.string (bs s), .int .i64 a, .int .i64 room] w (RRPost s.length w (readL termR limR f room (s.drop a)))
theorem rr_none {n : Nat} {w w' : World} {k nn rr : Int} {t : List UInt8} {ad : Option Addr} {m c : Nat} (hg : GL [] w w') : RRPost n w none (.returned (.tuple #[.agg #[.int .u8 k, .string (bs t), .int .i64 nn, .slice ad m c], .int .i64 (-1), .int .i64 rr])) w' :=
  ⟨hg, k, nn, rr, t, ad, m, c, rfl⟩
theorem cell_alloc_ltR {w : World} {b : Nat} (h : b < w.heap.size) (o : Obj) (j : Nat) : (w.alloc o).cell? ⟨b, j, none⟩ = w.cell? ⟨b, j, none⟩ := by
  simp only [World.cell?, Below.heap_alloc w o b h]

set_option maxRecDepth 100000 in
set_option maxHeartbeats 4000000 in
theorem rrEnd (s : List UInt8) (a : Nat) (room : Int) (ha : a = s.length) (hs : s.length ≤ 100000000000) (w : World) :
    Calls Tryz.prog 83 #[.string (bs s), .int .i64 a, .int .i64 room] w (RRPost s.length w none) := by
  have i1 : ((a : Int)) = s.length := by omega
  go_enter Tryz.func83, Tryz.ntmps83
  go_wp2
  refine bodyPost_ret (v := .tuple #[.agg #[.int .u8 0, .string (bs []), .int .i64 0, .slice none 0 0], .int .i64 (-1), .int .i64 0]) (by simp [results, Tryz.results83, go_sem, cell_alloc_ltR]) rfl ?_
  exact rr_none (by (repeat' (first | with_reducible exact gl_refl _ _ | with_reducible assumption | with_reducible refine gl_alloc ?_ _ | with_reducible refine gl_drewN ?_ _ | with_reducible refine gl_drew ?_ | (with_reducible refine gl_setn ?_ ?_ _; · (first | exact Nat.le_refl _ | (simp; done) | (simp; omega) | omega)) | (with_reducible refine gl_seti ?_ ?_ _; · (simp; done)) | with_reducible refine gl_below (by with_reducible assumption) ?_ | with_reducible refine gl_step (by with_reducible assumption) ?_ (by first | (simp; done) | (simp; omega)) | with_reducible refine gl_grown (by with_reducible assumption) ?_ (by first | (simp; done) | (simp; omega)))))

set_option maxRecDepth 100000 in
set_option maxHeartbeats 4000000 in
theorem rrFull (s : List UInt8) (a : Nat) (hlt : a < s.length) (hs : s.length ≤ 100000000000) (w : World) :
    Calls Tryz.prog 83 #[.string (bs s), .int .i64 a, .int .i64 0] w (RRPost s.length w none) := by
  have i1 : (a : Int) < s.length := by omega
  go_enter Tryz.func83, Tryz.ntmps83
  go_wp2
  refine bodyPost_ret (v := .tuple #[.agg #[.int .u8 0, .string (bs []), .int .i64 0, .slice none 0 0], .int .i64 (-1), .int .i64 0]) (by simp [results, Tryz.results83, go_sem, cell_alloc_ltR]) rfl ?_
  exact rr_none (by (repeat' (first | with_reducible exact gl_refl _ _ | with_reducible assumption | with_reducible refine gl_alloc ?_ _ | with_reducible refine gl_drewN ?_ _ | with_reducible refine gl_drew ?_ | (with_reducible refine gl_setn ?_ ?_ _; · (first | exact Nat.le_refl _ | (simp; done) | (simp; omega) | omega)) | (with_reducible refine gl_seti ?_ ?_ _; · (simp; done)) | with_reducible refine gl_below (by with_reducible assumption) ?_ | with_reducible refine gl_step (by with_reducible assumption) ?_ (by first | (simp; done) | (simp; omega)) | with_reducible refine gl_grown (by with_reducible assumption) ?_ (by first | (simp; done) | (simp; omega)))))

set_option maxRecDepth 100000 in
set_option maxHeartbeats 4000000 in
theorem rr1N (s : List UInt8) (a : Nat) (rm : Nat) (hrm : rm ≤ 64) (hlt : a < s.length) (hc : s[a] = 115) (hn : termR (s.drop (a + 1)) = none) (hs : s.length ≤ 100000000000) (w : World) :
    Calls Tryz.prog 83 #[.string (bs s), .int .i64 a, .int .i64 ((rm : Int) + 1)] w (RRPost s.length w none) := by
  have HV := Lib.hid (termRV_none hn)
  clear hn
  have i1 : (a : Int) < s.length := by omega
  have hb0 : ((rm : Int) + 1 == 0) = false := by simp; omega
  have b115 : (((s[a].toNat : Nat) : Int) == 115) = true := by rw [hc]; rfl
  clear hc
  go_enter Tryz.func83, Tryz.ntmps83
  go_wp2_with fail
  refine (rlTermI s _ (by omega) (by omega) (by omega) _).mono ?_
  rintro e w1 ⟨rfl, hb1⟩
  rw [show ((a : Int) + 1).toNat = a + 1 by omega, HV.out]
  have HB1 := Lib.hid (blk_below (blk_new w (.cells #[.int .u8 0, .string (bs []), .int .i64 0, .slice none 0 0] 25)) hb1 (by simp))
  have f1 := blk_cell HB1.out
  have f2 := blk_free HB1.out
  have f3 := blk_lt HB1.out
  have hg1 : GL [] w w1 := gl_below hb1 (gl_alloc (gl_refl _ _) _)
  go_wp2
  refine bodyPost_ret (v := .tuple #[.agg #[.int .u8 0, .string (bs []), .int .i64 0, .slice none 0 0], .int .i64 (-1), .int .i64 0]) (by simp [results, Tryz.results83, go_sem, cell_alloc_ltR, f1, f2, f3]) rfl ?_
  exact rr_none (by (repeat' (first | with_reducible exact gl_refl _ _ | with_reducible assumption | with_reducible refine gl_alloc ?_ _ | with_reducible refine gl_drewN ?_ _ | with_reducible refine gl_drew ?_ | (with_reducible refine gl_setn ?_ ?_ _; · (first | exact Nat.le_refl _ | (simp; done) | (simp; omega) | omega)) | (with_reducible refine gl_seti ?_ ?_ _; · (simp; done)) | with_reducible refine gl_below (by with_reducible assumption) ?_ | with_reducible refine gl_step (by with_reducible assumption) ?_ (by first | (simp; done) | (simp; omega)) | with_reducible refine gl_grown (by with_reducible assumption) ?_ (by first | (simp; done) | (simp; omega)))))

set_option maxRecDepth 100000 in
set_option maxHeartbeats 4000000 in
theorem rr1Y (s : List UInt8) (a : Nat) (rm : Nat) (hrm : rm ≤ 64) (hlt : a < s.length) (t r : List UInt8) (hc : s[a] = 115) (hn : termR (s.drop (a + 1)) = some (t, r)) (hs : s.length ≤ 100000000000) (w : World) :
    Calls Tryz.prog 83 #[.string (bs s), .int .i64 a, .int .i64 ((rm : Int) + 1)] w (RRPost s.length w (some (.mk 1 t 0 [], r, rm))) := by
  obtain ⟨hv, ht, hr, hl1, hl2, hl3⟩ := termRV_some hn
  have HV := Lib.hid hv
  have HT := Lib.hid ht
  have hrl : s.length - r.length = a + 1 + t.length := by omega
  clear hn hv ht
  have i1 : (a : Int) < s.length := by omega
  have hb0 : ((rm : Int) + 1 == 0) = false := by simp; omega
  have b115 : (((s[a].toNat : Nat) : Int) == 115) = true := by rw [hc]; rfl
  clear hc
  go_enter Tryz.func83, Tryz.ntmps83
  go_wp2_with fail
  refine (rlTermI s _ (by omega) (by omega) (by omega) _).mono ?_
  rintro e w1 ⟨rfl, hb1⟩
  rw [show ((a : Int) + 1).toNat = a + 1 by omega, HV.out]
  have HB1 := Lib.hid (blk_below (blk_new w (.cells #[.int .u8 0, .string (bs []), .int .i64 0, .slice none 0 0] 25)) hb1 (by simp))
  have f1 := blk_cell HB1.out
  have f2 := blk_free HB1.out
  have f3 := blk_lt HB1.out
  have hg1 : GL [] w w1 := gl_below hb1 (gl_alloc (gl_refl _ _) _)
  have k1 : (0 : Int) ≤ (a : Int) + 1 := by omega
  have k2 : (a : Int) + 1 ≤ ((a + 1 + t.length : Nat) : Int) := by omega
  have k3 : ((a + 1 + t.length : Nat) : Int) ≤ s.length := by omega
  have e1 : ((a : Int) + 1).toNat = a + 1 := by omega
  have e2 : ((a + 1 + t.length : Nat) : Int).toNat - (a + 1) = t.length := by omega
  have e3 : a + 1 + t.length - (a + 1) = t.length := by omega
  have et := HT.out.symm
  go_wp2
  refine bodyPost_ret (v := .tuple #[.agg #[.int .u8 1, .string (bs t), .int .i64 0, .slice none 0 0], .int .i64 ((a + 1 + t.length : Nat) : Int), .int .i64 rm]) (by simp [results, Tryz.results83, go_sem, cell_alloc_ltR, f1, f2, f3, e1, e2, e3, et]) rfl ?_
  rw [← hrl]
  exact ⟨by (repeat' (first | with_reducible exact gl_refl _ _ | with_reducible assumption | with_reducible refine gl_alloc ?_ _ | with_reducible refine gl_drewN ?_ _ | with_reducible refine gl_drew ?_ | (with_reducible refine gl_setn ?_ ?_ _; · (first | exact Nat.le_refl _ | (simp; done) | (simp; omega) | omega)) | (with_reducible refine gl_seti ?_ ?_ _; · (simp; done)) | with_reducible refine gl_below (by with_reducible assumption) ?_ | with_reducible refine gl_step (by with_reducible assumption) ?_ (by first | (simp; done) | (simp; omega)) | with_reducible refine gl_grown (by with_reducible assumption) ?_ (by first | (simp; done) | (simp; omega)))), _, rfl, by unfold LockIn; exact ⟨by omega, by omega, by first | (simp; done) | omega, by simp, _, rfl, .inl ⟨none, 0, rfl, rfl⟩⟩⟩

set_option maxRecDepth 100000 in
set_option maxHeartbeats 4000000 in
theorem rr2N (s : List UInt8) (a : Nat) (rm : Nat) (hrm : rm ≤ 64) (hlt : a < s.length) (hc : s[a] = 112) (hn : termR (s.drop (a + 1)) = none) (hs : s.length ≤ 100000000000) (w : World) :
    Calls Tryz.prog 83 #[.string (bs s), .int .i64 a, .int .i64 ((rm : Int) + 1)] w (RRPost s.length w none) := by
  have HV := Lib.hid (termRV_none hn)
  clear hn
  have i1 : (a : Int) < s.length := by omega
  have hb0 : ((rm : Int) + 1 == 0) = false := by simp; omega
  have b115 : (((s[a].toNat : Nat) : Int) == 115) = false := by rw [hc]; rfl
  have b112 : (((s[a].toNat : Nat) : Int) == 112) = true := by rw [hc]; rfl
  clear hc
  go_enter Tryz.func83, Tryz.ntmps83
  go_wp2_with fail
  refine (rlTermI s _ (by omega) (by omega) (by omega) _).mono ?_
  rintro e w1 ⟨rfl, hb1⟩
  rw [show ((a : Int) + 1).toNat = a + 1 by omega, HV.out]
  have HB1 := Lib.hid (blk_below (blk_new w (.cells #[.int .u8 0, .string (bs []), .int .i64 0, .slice none 0 0] 25)) hb1 (by simp))
  have f1 := blk_cell HB1.out
  have f2 := blk_free HB1.out
  have f3 := blk_lt HB1.out
  have hg1 : GL [] w w1 := gl_below hb1 (gl_alloc (gl_refl _ _) _)
  go_wp2
  refine bodyPost_ret (v := .tuple #[.agg #[.int .u8 0, .string (bs []), .int .i64 0, .slice none 0 0], .int .i64 (-1), .int .i64 0]) (by simp [results, Tryz.results83, go_sem, cell_alloc_ltR, f1, f2, f3]) rfl ?_
  exact rr_none (by (repeat' (first | with_reducible exact gl_refl _ _ | with_reducible assumption | with_reducible refine gl_alloc ?_ _ | with_reducible refine gl_drewN ?_ _ | with_reducible refine gl_drew ?_ | (with_reducible refine gl_setn ?_ ?_ _; · (first | exact Nat.le_refl _ | (simp; done) | (simp; omega) | omega)) | (with_reducible refine gl_seti ?_ ?_ _; · (simp; done)) | with_reducible refine gl_below (by with_reducible assumption) ?_ | with_reducible refine gl_step (by with_reducible assumption) ?_ (by first | (simp; done) | (simp; omega)) | with_reducible refine gl_grown (by with_reducible assumption) ?_ (by first | (simp; done) | (simp; omega)))))

set_option maxRecDepth 100000 in
set_option maxHeartbeats 4000000 in
theorem rr2Y (s : List UInt8) (a : Nat) (rm : Nat) (hrm : rm ≤ 64) (hlt : a < s.length) (t r : List UInt8) (hc : s[a] = 112) (hn : termR (s.drop (a + 1)) = some (t, r)) (hs : s.length ≤ 100000000000) (w : World) :
    Calls Tryz.prog 83 #[.string (bs s), .int .i64 a, .int .i64 ((rm : Int) + 1)] w (RRPost s.length w (some (.mk 2 t 0 [], r, rm))) := by
  obtain ⟨hv, ht, hr, hl1, hl2, hl3⟩ := termRV_some hn
  have HV := Lib.hid hv
  have HT := Lib.hid ht
  have hrl : s.length - r.length = a + 1 + t.length := by omega
  clear hn hv ht
  have i1 : (a : Int) < s.length := by omega
  have hb0 : ((rm : Int) + 1 == 0) = false := by simp; omega
  have b115 : (((s[a].toNat : Nat) : Int) == 115) = false := by rw [hc]; rfl
  have b112 : (((s[a].toNat : Nat) : Int) == 112) = true := by rw [hc]; rfl
  clear hc
  go_enter Tryz.func83, Tryz.ntmps83
  go_wp2_with fail
  refine (rlTermI s _ (by omega) (by omega) (by omega) _).mono ?_
  rintro e w1 ⟨rfl, hb1⟩
  rw [show ((a : Int) + 1).toNat = a + 1 by omega, HV.out]
  have HB1 := Lib.hid (blk_below (blk_new w (.cells #[.int .u8 0, .string (bs []), .int .i64 0, .slice none 0 0] 25)) hb1 (by simp))
  have f1 := blk_cell HB1.out
  have f2 := blk_free HB1.out
  have f3 := blk_lt HB1.out
  have hg1 : GL [] w w1 := gl_below hb1 (gl_alloc (gl_refl _ _) _)
  have k1 : (0 : Int) ≤ (a : Int) + 1 := by omega
  have k2 : (a : Int) + 1 ≤ ((a + 1 + t.length : Nat) : Int) := by omega
  have k3 : ((a + 1 + t.length : Nat) : Int) ≤ s.length := by omega
  have e1 : ((a : Int) + 1).toNat = a + 1 := by omega
  have e2 : ((a + 1 + t.length : Nat) : Int).toNat - (a + 1) = t.length := by omega
  have e3 : a + 1 + t.length - (a + 1) = t.length := by omega
  have et := HT.out.symm
  go_wp2
  refine bodyPost_ret (v := .tuple #[.agg #[.int .u8 2, .string (bs t), .int .i64 0, .slice none 0 0], .int .i64 ((a + 1 + t.length : Nat) : Int), .int .i64 rm]) (by simp [results, Tryz.results83, go_sem, cell_alloc_ltR, f1, f2, f3, e1, e2, e3, et]) rfl ?_
  rw [← hrl]
  exact ⟨by (repeat' (first | with_reducible exact gl_refl _ _ | with_reducible assumption | with_reducible refine gl_alloc ?_ _ | with_reducible refine gl_drewN ?_ _ | with_reducible refine gl_drew ?_ | (with_reducible refine gl_setn ?_ ?_ _; · (first | exact Nat.le_refl _ | (simp; done) | (simp; omega) | omega)) | (with_reducible refine gl_seti ?_ ?_ _; · (simp; done)) | with_reducible refine gl_below (by with_reducible assumption) ?_ | with_reducible refine gl_step (by with_reducible assumption) ?_ (by first | (simp; done) | (simp; omega)) | with_reducible refine gl_grown (by with_reducible assumption) ?_ (by first | (simp; done) | (simp; omega)))), _, rfl, by unfold LockIn; exact ⟨by omega, by omega, by first | (simp; done) | omega, by simp, _, rfl, .inl ⟨none, 0, rfl, rfl⟩⟩⟩

set_option maxRecDepth 100000 in
set_option maxHeartbeats 4000000 in
theorem rr3N (s : List UInt8) (a : Nat) (rm : Nat) (hrm : rm ≤ 64) (hlt : a < s.length) (hc : s[a] = 97) (hn : numP 59 (s.drop (a + 1)) = none) (hs : s.length ≤ 100000000000) (w : World) :
    Calls Tryz.prog 83 #[.string (bs s), .int .i64 a, .int .i64 ((rm : Int) + 1)] w (RRPost s.length w none) := by
  have HV := Lib.hid (numRV_none 59 (by decide) hn)
  clear hn
  have i1 : (a : Int) < s.length := by omega
  have hb0 : ((rm : Int) + 1 == 0) = false := by simp; omega
  have b115 : (((s[a].toNat : Nat) : Int) == 115) = false := by rw [hc]; rfl
  have b112 : (((s[a].toNat : Nat) : Int) == 112) = false := by rw [hc]; rfl
  have b97 : (((s[a].toNat : Nat) : Int) == 97) = true := by rw [hc]; rfl
  clear hc
  go_enter Tryz.func83, Tryz.ntmps83
  go_wp2_with fail
  refine (rlNumber 59 s _ _ (by omega) (by omega) rfl (by omega) _).mono ?_
  rintro e w1 ⟨rfl, rfl⟩
  rw [show ((a : Int) + 1).toNat = a + 1 by omega, HV.out]
  go_wp2
  refine bodyPost_ret (v := .tuple #[.agg #[.int .u8 3, .string (bs []), .int .i64 0, .slice none 0 0], .int .i64 (-1), .int .i64 rm]) (by simp [results, Tryz.results83, go_sem, cell_alloc_ltR]) rfl ?_
  exact rr_none (by (repeat' (first | with_reducible exact gl_refl _ _ | with_reducible assumption | with_reducible refine gl_alloc ?_ _ | with_reducible refine gl_drewN ?_ _ | with_reducible refine gl_drew ?_ | (with_reducible refine gl_setn ?_ ?_ _; · (first | exact Nat.le_refl _ | (simp; done) | (simp; omega) | omega)) | (with_reducible refine gl_seti ?_ ?_ _; · (simp; done)) | with_reducible refine gl_below (by with_reducible assumption) ?_ | with_reducible refine gl_step (by with_reducible assumption) ?_ (by first | (simp; done) | (simp; omega)) | with_reducible refine gl_grown (by with_reducible assumption) ?_ (by first | (simp; done) | (simp; omega)))))

set_option maxRecDepth 100000 in
set_option maxHeartbeats 4000000 in
theorem rr3Y (s : List UInt8) (a : Nat) (rm : Nat) (hrm : rm ≤ 64) (hlt : a < s.length) (nn : Nat) (r : List UInt8) (hc : s[a] = 97) (hn : numP 59 (s.drop (a + 1)) = some (nn, r)) (hs : s.length ≤ 100000000000) (w : World) :
    Calls Tryz.prog 83 #[.string (bs s), .int .i64 a, .int .i64 ((rm : Int) + 1)] w (RRPost s.length w (some (.mk 3 [] nn [], r, rm))) := by
  have HV := Lib.hid (numRV_some 59 (by decide) (by omega) hn)
  have hnn := (numP_back hn).2
  clear hn
  have i1 : (a : Int) < s.length := by omega
  have hb0 : ((rm : Int) + 1 == 0) = false := by simp; omega
  have b115 : (((s[a].toNat : Nat) : Int) == 115) = false := by rw [hc]; rfl
  have b112 : (((s[a].toNat : Nat) : Int) == 112) = false := by rw [hc]; rfl
  have b97 : (((s[a].toNat : Nat) : Int) == 97) = true := by rw [hc]; rfl
  clear hc
  go_enter Tryz.func83, Tryz.ntmps83
  go_wp2_with fail
  refine (rlNumber 59 s _ _ (by omega) (by omega) rfl (by omega) _).mono ?_
  rintro e w1 ⟨rfl, rfl⟩
  rw [show ((a : Int) + 1).toNat = a + 1 by omega, HV.out]
  go_wp2
  refine bodyPost_ret (v := .tuple #[.agg #[.int .u8 3, .string (bs []), .int .i64 nn, .slice none 0 0], .int .i64 ((s.length - r.length : Nat) : Int), .int .i64 rm]) (by simp [results, Tryz.results83, go_sem, cell_alloc_ltR]) rfl ?_
  exact ⟨by (repeat' (first | with_reducible exact gl_refl _ _ | with_reducible assumption | with_reducible refine gl_alloc ?_ _ | with_reducible refine gl_drewN ?_ _ | with_reducible refine gl_drew ?_ | (with_reducible refine gl_setn ?_ ?_ _; · (first | exact Nat.le_refl _ | (simp; done) | (simp; omega) | omega)) | (with_reducible refine gl_seti ?_ ?_ _; · (simp; done)) | with_reducible refine gl_below (by with_reducible assumption) ?_ | with_reducible refine gl_step (by with_reducible assumption) ?_ (by first | (simp; done) | (simp; omega)) | with_reducible refine gl_grown (by with_reducible assumption) ?_ (by first | (simp; done) | (simp; omega)))), _, rfl, by unfold LockIn; exact ⟨by omega, by omega, by first | (simp; done) | omega, by simp, _, rfl, .inl ⟨none, 0, rfl, rfl⟩⟩⟩

set_option maxRecDepth 100000 in
set_option maxHeartbeats 4000000 in
theorem rr4N (s : List UInt8) (a : Nat) (rm : Nat) (hrm : rm ≤ 64) (hlt : a < s.length) (hc : s[a] = 111) (hn : numP 59 (s.drop (a + 1)) = none) (hs : s.length ≤ 100000000000) (w : World) :
    Calls Tryz.prog 83 #[.string (bs s), .int .i64 a, .int .i64 ((rm : Int) + 1)] w (RRPost s.length w none) := by
  have HV := Lib.hid (numRV_none 59 (by decide) hn)
  clear hn
  have i1 : (a : Int) < s.length := by omega
  have hb0 : ((rm : Int) + 1 == 0) = false := by simp; omega
  have b115 : (((s[a].toNat : Nat) : Int) == 115) = false := by rw [hc]; rfl
  have b112 : (((s[a].toNat : Nat) : Int) == 112) = false := by rw [hc]; rfl
  have b97 : (((s[a].toNat : Nat) : Int) == 97) = false := by rw [hc]; rfl
  have b111 : (((s[a].toNat : Nat) : Int) == 111) = true := by rw [hc]; rfl
  clear hc
  go_enter Tryz.func83, Tryz.ntmps83
  go_wp2_with fail
  refine (rlNumber 59 s _ _ (by omega) (by omega) rfl (by omega) _).mono ?_
  rintro e w1 ⟨rfl, rfl⟩
  rw [show ((a : Int) + 1).toNat = a + 1 by omega, HV.out]
  go_wp2
  refine bodyPost_ret (v := .tuple #[.agg #[.int .u8 4, .string (bs []), .int .i64 0, .slice none 0 0], .int .i64 (-1), .int .i64 rm]) (by simp [results, Tryz.results83, go_sem, cell_alloc_ltR]) rfl ?_
  exact rr_none (by (repeat' (first | with_reducible exact gl_refl _ _ | with_reducible assumption | with_reducible refine gl_alloc ?_ _ | with_reducible refine gl_drewN ?_ _ | with_reducible refine gl_drew ?_ | (with_reducible refine gl_setn ?_ ?_ _; · (first | exact Nat.le_refl _ | (simp; done) | (simp; omega) | omega)) | (with_reducible refine gl_seti ?_ ?_ _; · (simp; done)) | with_reducible refine gl_below (by with_reducible assumption) ?_ | with_reducible refine gl_step (by with_reducible assumption) ?_ (by first | (simp; done) | (simp; omega)) | with_reducible refine gl_grown (by with_reducible assumption) ?_ (by first | (simp; done) | (simp; omega)))))

set_option maxRecDepth 100000 in
set_option maxHeartbeats 4000000 in
theorem rr4Y (s : List UInt8) (a : Nat) (rm : Nat) (hrm : rm ≤ 64) (hlt : a < s.length) (nn : Nat) (r : List UInt8) (hc : s[a] = 111) (hn : numP 59 (s.drop (a + 1)) = some (nn, r)) (hs : s.length ≤ 100000000000) (w : World) :
    Calls Tryz.prog 83 #[.string (bs s), .int .i64 a, .int .i64 ((rm : Int) + 1)] w (RRPost s.length w (some (.mk 4 [] nn [], r, rm))) := by
  have HV := Lib.hid (numRV_some 59 (by decide) (by omega) hn)
  have hnn := (numP_back hn).2
  clear hn
  have i1 : (a : Int) < s.length := by omega
  have hb0 : ((rm : Int) + 1 == 0) = false := by simp; omega
  have b115 : (((s[a].toNat : Nat) : Int) == 115) = false := by rw [hc]; rfl
  have b112 : (((s[a].toNat : Nat) : Int) == 112) = false := by rw [hc]; rfl
  have b97 : (((s[a].toNat : Nat) : Int) == 97) = false := by rw [hc]; rfl
  have b111 : (((s[a].toNat : Nat) : Int) == 111) = true := by rw [hc]; rfl
  clear hc
  go_enter Tryz.func83, Tryz.ntmps83
  go_wp2_with fail
  refine (rlNumber 59 s _ _ (by omega) (by omega) rfl (by omega) _).mono ?_
  rintro e w1 ⟨rfl, rfl⟩
  rw [show ((a : Int) + 1).toNat = a + 1 by omega, HV.out]
  go_wp2
  refine bodyPost_ret (v := .tuple #[.agg #[.int .u8 4, .string (bs []), .int .i64 nn, .slice none 0 0], .int .i64 ((s.length - r.length : Nat) : Int), .int .i64 rm]) (by simp [results, Tryz.results83, go_sem, cell_alloc_ltR]) rfl ?_
  exact ⟨by (repeat' (first | with_reducible exact gl_refl _ _ | with_reducible assumption | with_reducible refine gl_alloc ?_ _ | with_reducible refine gl_drewN ?_ _ | with_reducible refine gl_drew ?_ | (with_reducible refine gl_setn ?_ ?_ _; · (first | exact Nat.le_refl _ | (simp; done) | (simp; omega) | omega)) | (with_reducible refine gl_seti ?_ ?_ _; · (simp; done)) | with_reducible refine gl_below (by with_reducible assumption) ?_ | with_reducible refine gl_step (by with_reducible assumption) ?_ (by first | (simp; done) | (simp; omega)) | with_reducible refine gl_grown (by with_reducible assumption) ?_ (by first | (simp; done) | (simp; omega)))), _, rfl, by unfold LockIn; exact ⟨by omega, by omega, by first | (simp; done) | omega, by simp, _, rfl, .inl ⟨none, 0, rfl, rfl⟩⟩⟩

set_option maxRecDepth 100000 in
set_option maxHeartbeats 4000000 in
theorem rrOther (s : List UInt8) (a : Nat) (rm : Nat) (hrm : rm ≤ 64) (hlt : a < s.length) (h1 : (((s[a].toNat : Nat) : Int) == 115) = false) (h2 : (((s[a].toNat : Nat) : Int) == 112) = false) (h3 : (((s[a].toNat : Nat) : Int) == 97) = false) (h4 : (((s[a].toNat : Nat) : Int) == 111) = false) (h5 : (((s[a].toNat : Nat) : Int) == 124) = false) (h6 : (((s[a].toNat : Nat) : Int) != 38) = true) (hs : s.length ≤ 100000000000) (w : World) :
    Calls Tryz.prog 83 #[.string (bs s), .int .i64 a, .int .i64 ((rm : Int) + 1)] w (RRPost s.length w none) := by
  have i1 : (a : Int) < s.length := by omega
  have hb0 : ((rm : Int) + 1 == 0) = false := by simp; omega
  go_enter Tryz.func83, Tryz.ntmps83
  go_wp2
  refine bodyPost_ret (v := .tuple #[.agg #[.int .u8 0, .string (bs []), .int .i64 0, .slice none 0 0], .int .i64 (-1), .int .i64 0]) (by simp [results, Tryz.results83, go_sem, cell_alloc_ltR]) rfl ?_
  exact rr_none (by (repeat' (first | with_reducible exact gl_refl _ _ | with_reducible assumption | with_reducible refine gl_alloc ?_ _ | with_reducible refine gl_drewN ?_ _ | with_reducible refine gl_drew ?_ | (with_reducible refine gl_setn ?_ ?_ _; · (first | exact Nat.le_refl _ | (simp; done) | (simp; omega) | omega)) | (with_reducible refine gl_seti ?_ ?_ _; · (simp; done)) | with_reducible refine gl_below (by with_reducible assumption) ?_ | with_reducible refine gl_step (by with_reducible assumption) ?_ (by first | (simp; done) | (simp; omega)) | with_reducible refine gl_grown (by with_reducible assumption) ?_ (by first | (simp; done) | (simp; omega)))))

set_option maxRecDepth 100000 in
set_option maxHeartbeats 4000000 in
theorem rr5N (s : List UInt8) (a : Nat) (rm : Nat) (hrm : rm ≤ 64) (hlt : a < s.length) (hc : s[a] = 38) (hn : numP 58 (s.drop (a + 1)) = none) (hs : s.length ≤ 100000000000) (w : World) :
    Calls Tryz.prog 83 #[.string (bs s), .int .i64 a, .int .i64 ((rm : Int) + 1)] w (RRPost s.length w none) := by
  have HV := Lib.hid (numRV_none 58 (by decide) hn)
  clear hn
  have i1 : (a : Int) < s.length := by omega
  have hb0 : ((rm : Int) + 1 == 0) = false := by simp; omega
  have b115 : (((s[a].toNat : Nat) : Int) == 115) = false := by rw [hc]; rfl
  have b112 : (((s[a].toNat : Nat) : Int) == 112) = false := by rw [hc]; rfl
  have b97 : (((s[a].toNat : Nat) : Int) == 97) = false := by rw [hc]; rfl
  have b111 : (((s[a].toNat : Nat) : Int) == 111) = false := by rw [hc]; rfl
  have b124 : (((s[a].toNat : Nat) : Int) == 124) = false := by rw [hc]; rfl
  have b38 : (((s[a].toNat : Nat) : Int) != 38) = false := by rw [hc]; rfl
  clear hc
  go_enter Tryz.func83, Tryz.ntmps83
  go_wp2_with fail
  refine (rlNumber 58 s _ _ (by omega) (by omega) rfl (by omega) _).mono ?_
  rintro e w1 ⟨rfl, rfl⟩
  rw [show ((a : Int) + 1).toNat = a + 1 by omega, HV.out]
  go_wp2
  refine bodyPost_ret (v := .tuple #[.agg #[.int .u8 0, .string (bs []), .int .i64 0, .slice none 0 0], .int .i64 (-1), .int .i64 0]) (by simp [results, Tryz.results83, go_sem, cell_alloc_ltR]) rfl ?_
  exact rr_none (by (repeat' (first | with_reducible exact gl_refl _ _ | with_reducible assumption | with_reducible refine gl_alloc ?_ _ | with_reducible refine gl_drewN ?_ _ | with_reducible refine gl_drew ?_ | (with_reducible refine gl_setn ?_ ?_ _; · (first | exact Nat.le_refl _ | (simp; done) | (simp; omega) | omega)) | (with_reducible refine gl_seti ?_ ?_ _; · (simp; done)) | with_reducible refine gl_below (by with_reducible assumption) ?_ | with_reducible refine gl_step (by with_reducible assumption) ?_ (by first | (simp; done) | (simp; omega)) | with_reducible refine gl_grown (by with_reducible assumption) ?_ (by first | (simp; done) | (simp; omega)))))

set_option maxRecDepth 100000 in
set_option maxHeartbeats 4000000 in
theorem rr5B (s : List UInt8) (a : Nat) (rm : Nat) (hrm : rm ≤ 64) (hlt : a < s.length) (nn : Nat) (r : List UInt8) (hc : s[a] = 38) (hn : numP 58 (s.drop (a + 1)) = some (nn, r)) (h8 : 8 < nn) (hs : s.length ≤ 100000000000) (w : World) :
    Calls Tryz.prog 83 #[.string (bs s), .int .i64 a, .int .i64 ((rm : Int) + 1)] w (RRPost s.length w none) := by
  have HV := Lib.hid (numRV_some 58 (by decide) (by omega) hn)
  have hnn := (numP_back hn).2
  clear hn
  have i1 : (a : Int) < s.length := by omega
  have hb0 : ((rm : Int) + 1 == 0) = false := by simp; omega
  have b115 : (((s[a].toNat : Nat) : Int) == 115) = false := by rw [hc]; rfl
  have b112 : (((s[a].toNat : Nat) : Int) == 112) = false := by rw [hc]; rfl
  have b97 : (((s[a].toNat : Nat) : Int) == 97) = false := by rw [hc]; rfl
  have b111 : (((s[a].toNat : Nat) : Int) == 111) = false := by rw [hc]; rfl
  have b124 : (((s[a].toNat : Nat) : Int) == 124) = false := by rw [hc]; rfl
  have b38 : (((s[a].toNat : Nat) : Int) != 38) = false := by rw [hc]; rfl
  clear hc
  have b8 : decide (8 < (nn : Int)) = true := by simp; omega
  go_enter Tryz.func83, Tryz.ntmps83
  go_wp2_with fail
  refine (rlNumber 58 s _ _ (by omega) (by omega) rfl (by omega) _).mono ?_
  rintro e w1 ⟨rfl, rfl⟩
  rw [show ((a : Int) + 1).toNat = a + 1 by omega, HV.out]
  go_wp2
  refine bodyPost_ret (v := .tuple #[.agg #[.int .u8 0, .string (bs []), .int .i64 0, .slice none 0 0], .int .i64 (-1), .int .i64 0]) (by simp [results, Tryz.results83, go_sem, cell_alloc_ltR]) rfl ?_
  exact rr_none (by (repeat' (first | with_reducible exact gl_refl _ _ | with_reducible assumption | with_reducible refine gl_alloc ?_ _ | with_reducible refine gl_drewN ?_ _ | with_reducible refine gl_drew ?_ | (with_reducible refine gl_setn ?_ ?_ _; · (first | exact Nat.le_refl _ | (simp; done) | (simp; omega) | omega)) | (with_reducible refine gl_seti ?_ ?_ _; · (simp; done)) | with_reducible refine gl_below (by with_reducible assumption) ?_ | with_reducible refine gl_step (by with_reducible assumption) ?_ (by first | (simp; done) | (simp; omega)) | with_reducible refine gl_grown (by with_reducible assumption) ?_ (by first | (simp; done) | (simp; omega)))))

set_option maxRecDepth 100000 in
set_option maxHeartbeats 4000000 in
theorem rr6N (s : List UInt8) (a : Nat) (rm : Nat) (hrm : rm ≤ 64) (hlt : a < s.length) (hc : s[a] = 124) (hn : numP 58 (s.drop (a + 1)) = none) (hs : s.length ≤ 100000000000) (w : World) :
    Calls Tryz.prog 83 #[.string (bs s), .int .i64 a, .int .i64 ((rm : Int) + 1)] w (RRPost s.length w none) := by
  have HV := Lib.hid (numRV_none 58 (by decide) hn)
  clear hn
  have i1 : (a : Int) < s.length := by omega
  have hb0 : ((rm : Int) + 1 == 0) = false := by simp; omega
  have b115 : (((s[a].toNat : Nat) : Int) == 115) = false := by rw [hc]; rfl
  have b112 : (((s[a].toNat : Nat) : Int) == 112) = false := by rw [hc]; rfl
  have b97 : (((s[a].toNat : Nat) : Int) == 97) = false := by rw [hc]; rfl
  have b111 : (((s[a].toNat : Nat) : Int) == 111) = false := by rw [hc]; rfl
  have b124 : (((s[a].toNat : Nat) : Int) == 124) = true := by rw [hc]; rfl
  clear hc
  go_enter Tryz.func83, Tryz.ntmps83
  go_wp2_with fail
  refine (rlNumber 58 s _ _ (by omega) (by omega) rfl (by omega) _).mono ?_
  rintro e w1 ⟨rfl, rfl⟩
  rw [show ((a : Int) + 1).toNat = a + 1 by omega, HV.out]
  go_wp2
  refine bodyPost_ret (v := .tuple #[.agg #[.int .u8 0, .string (bs []), .int .i64 0, .slice none 0 0], .int .i64 (-1), .int .i64 0]) (by simp [results, Tryz.results83, go_sem, cell_alloc_ltR]) rfl ?_
  exact rr_none (by (repeat' (first | with_reducible exact gl_refl _ _ | with_reducible assumption | with_reducible refine gl_alloc ?_ _ | with_reducible refine gl_drewN ?_ _ | with_reducible refine gl_drew ?_ | (with_reducible refine gl_setn ?_ ?_ _; · (first | exact Nat.le_refl _ | (simp; done) | (simp; omega) | omega)) | (with_reducible refine gl_seti ?_ ?_ _; · (simp; done)) | with_reducible refine gl_below (by with_reducible assumption) ?_ | with_reducible refine gl_step (by with_reducible assumption) ?_ (by first | (simp; done) | (simp; omega)) | with_reducible refine gl_grown (by with_reducible assumption) ?_ (by first | (simp; done) | (simp; omega)))))

set_option maxRecDepth 100000 in
set_option maxHeartbeats 4000000 in
theorem rr6B (s : List UInt8) (a : Nat) (rm : Nat) (hrm : rm ≤ 64) (hlt : a < s.length) (nn : Nat) (r : List UInt8) (hc : s[a] = 124) (hn : numP 58 (s.drop (a + 1)) = some (nn, r)) (h8 : 8 < nn) (hs : s.length ≤ 100000000000) (w : World) :
    Calls Tryz.prog 83 #[.string (bs s), .int .i64 a, .int .i64 ((rm : Int) + 1)] w (RRPost s.length w none) := by
  have HV := Lib.hid (numRV_some 58 (by decide) (by omega) hn)
  have hnn := (numP_back hn).2
  clear hn
  have i1 : (a : Int) < s.length := by omega
  have hb0 : ((rm : Int) + 1 == 0) = false := by simp; omega
  have b115 : (((s[a].toNat : Nat) : Int) == 115) = false := by rw [hc]; rfl
  have b112 : (((s[a].toNat : Nat) : Int) == 112) = false := by rw [hc]; rfl
  have b97 : (((s[a].toNat : Nat) : Int) == 97) = false := by rw [hc]; rfl
  have b111 : (((s[a].toNat : Nat) : Int) == 111) = false := by rw [hc]; rfl
  have b124 : (((s[a].toNat : Nat) : Int) == 124) = true := by rw [hc]; rfl
  clear hc
  have b8 : decide (8 < (nn : Int)) = true := by simp; omega
  go_enter Tryz.func83, Tryz.ntmps83
  go_wp2_with fail
  refine (rlNumber 58 s _ _ (by omega) (by omega) rfl (by omega) _).mono ?_
  rintro e w1 ⟨rfl, rfl⟩
  rw [show ((a : Int) + 1).toNat = a + 1 by omega, HV.out]
  go_wp2
  refine bodyPost_ret (v := .tuple #[.agg #[.int .u8 0, .string (bs []), .int .i64 0, .slice none 0 0], .int .i64 (-1), .int .i64 0]) (by simp [results, Tryz.results83, go_sem, cell_alloc_ltR]) rfl ?_
  exact rr_none (by (repeat' (first | with_reducible exact gl_refl _ _ | with_reducible assumption | with_reducible refine gl_alloc ?_ _ | with_reducible refine gl_drewN ?_ _ | with_reducible refine gl_drew ?_ | (with_reducible refine gl_setn ?_ ?_ _; · (first | exact Nat.le_refl _ | (simp; done) | (simp; omega) | omega)) | (with_reducible refine gl_seti ?_ ?_ _; · (simp; done)) | with_reducible refine gl_below (by with_reducible assumption) ?_ | with_reducible refine gl_step (by with_reducible assumption) ?_ (by first | (simp; done) | (simp; omega)) | with_reducible refine gl_grown (by with_reducible assumption) ?_ (by first | (simp; done) | (simp; omega)))))

/-- Where the reading of kids stands. -/
def RSt (s : List UInt8) (LB : Nat) (k : Int) (w : World) (f m : Nat) (tot : Option (List LT × List UInt8 × Nat)) (rm : Nat) (rv ev iv : Value) (wr : World) : Prop :=
  ∃ (j rj aj : Nat) (l : List LT) (cs : List Value) (a : Option Addr) (nn cap : Nat), j ≤ m ∧ iv = .int .i64 j ∧ ev = .int .i64 aj ∧ rv = .int .i64 rj ∧ l.length = j ∧ rj ≤ rm ∧ aj ≤ s.length ∧ LB < wr.heap.size ∧
    Hid (GL [] w wr) ∧ Hid (wr.heap[w.heap.size]? = some (.cells #[.int .u8 0, .string (bs []), .int .i64 0, .slice none 0 0] 25 (0, 0))) ∧
    Hid (wr.heap[LB]? = some (.cells #[.int .u8 k, .string (bs []), .int .i64 0, .slice a nn cap] 25 (0, 0))) ∧ Hid (wr.ownsRow (LB + 1) 25 4 (.slice a nn cap) j cs) ∧
    Hid (RowV (fun b => w.heap.size ≤ b ∧ b ≠ w.heap.size ∧ b ≠ LB ∧ some b ≠ (Value.slice a nn cap).ownBlock) wr l cs) ∧
    Hid ((match readRow (readL termR limR f) (m - j) rj (s.drop aj) with | none => none | some (l', s', r') => some (l ++ l', s', r')) = tot)
theorem rst_none {f d rj : Nat} {sj : List UInt8} {l : List LT} {tot : Option (List LT × List UInt8 × Nat)} (hd : 0 < d) (h : (match readRow (readL termR limR f) d rj sj with | none => none | some (l', s', r') => some (l ++ l', s', r')) = tot) (hx : readL termR limR f rj sj = none) : tot = none := by
  obtain ⟨e, rfl⟩ : ∃ e, d = e + 1 := ⟨d - 1, by omega⟩
  rw [readRow, hx] at h
  exact h.symm
theorem rst_some {f d rj r' : Nat} {sj s' : List UInt8} {l : List LT} {x : LT} {tot : Option (List LT × List UInt8 × Nat)} (hd : 0 < d) (h : (match readRow (readL termR limR f) d rj sj with | none => none | some (l', s', r') => some (l ++ l', s', r')) = tot) (hx : readL termR limR f rj sj = some (x, s', r')) :
    (match readRow (readL termR limR f) (d - 1) r' s' with | none => none | some (l', s', r') => some ((l ++ [x]) ++ l', s', r')) = tot := by
  obtain ⟨e, rfl⟩ : ∃ e, d = e + 1 := ⟨d - 1, by omega⟩
  rw [readRow, hx] at h
  simp only at h
  rw [← h, Nat.add_sub_cancel]
  cases readRow (readL termR limR f) e r' s' with
  | none => rfl
  | some z => simp
theorem own_ltR {w : World} {base e size n : Nat} {v : Value} {xs : List Value} (h : w.ownsRow base e size v n xs) : ∀ g, v.ownBlock = some g → g < w.heap.size := by
  intro g hg
  rcases h.2 with ⟨rfl, _⟩ | ⟨g', cap, cur, rfl, _, h', _⟩
  · simp [Value.ownBlock] at hg
  · simp [Value.ownBlock] at hg
    subst hg
    exact blk_lt h'
theorem rst_next {s : List UInt8} {LB : Nat} {k : Int} {w : World} {f m rm : Nat} {tot : Option (List LT × List UInt8 × Nat)} {j rj r' : Nat} {s' : List UInt8} {l : List LT} {cs : List Value} {a ad4 : Option Addr} {nn cap n4 cp4 : Nat} {wr w1 w4 : World} {X Y : Obj} {x : LT} {u0 u1 u2 u3 : Value}
    (hlt : j < m) (hll : l.length = j) (hrj : rj ≤ rm) (hlen : r' < rj) (hLs : LB < wr.heap.size) (hRSL : w.heap.size < LB)
    (hgr : GL [] w wr) (hgl1 : GL [] wr w1) (hQ1 : w1.heap[w.heap.size]? = some (.cells #[.int .u8 0, .string (bs []), .int .i64 0, .slice none 0 0] 25 (0, 0)))
    (hL4 : w4.heap[LB]? = some (.cells #[.int .u8 k, .string (bs []), .int .i64 0, .slice a nn cap] 25 (0, 0)))
    (hown : wr.ownsRow (LB + 1) 25 4 (.slice a nn cap) j cs) (hrv : RowV (fun b => w.heap.size ≤ b ∧ b ≠ w.heap.size ∧ b ≠ LB ∧ some b ≠ (Value.slice a nn cap).ownBlock) wr l cs)
    (hlv : LockIn (fun b => wr.heap.size ≤ b) w1 x (.agg #[u0, u1, u2, u3])) (hown4 : w4.ownsRow (LB + 1) 25 4 (.slice ad4 n4 cp4) (j + 1) (cs ++ [u0, u1, u2, u3]))
    (hgr4 : ((w1.alloc X).alloc Y).grownBy w4 (Value.slice a nn cap).ownBlock)
    (hat4 : (Value.slice ad4 n4 cp4).ownBlock = (Value.slice a nn cap).ownBlock ∨ (Value.slice ad4 n4 cp4).ownBlock = some ((w1.alloc X).alloc Y).heap.size)
    (hdr : s.drop (s.length - s'.length) = s') (hct : (match readRow (readL termR limR f) (m - j - 1) r' s' with | none => none | some (l', s', r') => some ((l ++ [x]) ++ l', s', r')) = tot) :
    RSt s LB k w f m tot rm (.int .i64 r') (.int .i64 ((s.length - s'.length : Nat) : Int)) (.int .i64 ((j : Int) + 1)) (w4.setCell ⟨LB, 3, none⟩ (.slice ad4 n4 cp4)) := by
  have hob := own_ge hown
  have hol := own_ltR hown
  have hob4 := own_ge hown4
  have h1 := hgr.size
  have h2 := hgl1.size
  have h3 := hgr4.size
  simp only [World.size_alloc] at h3
  have hkeep : ∀ b, b < w1.heap.size → some b ≠ (Value.slice a nn cap).ownBlock → b ≠ LB → (w4.setCell ⟨LB, 3, none⟩ (.slice ad4 n4 cp4)).heap[b]? = w1.heap[b]? := fun b hb ho hl => by
    rw [Below.heap_setCell _ _ _ _ (by simpa using hl), hgr4.block b (by simp; omega) ho, Below.heap_alloc _ _ _ (by simp; omega), Below.heap_alloc _ _ _ hb]
  have hnew : ∀ b, b < w1.heap.size → some b ≠ (Value.slice a nn cap).ownBlock → some b ≠ (Value.slice ad4 n4 cp4).ownBlock := fun b hb ho => by
    rcases hat4 with h | h
    · rw [h]; exact ho
    · rw [h]; simp; omega
  have hlow : ∀ b, b < LB → some b ≠ (Value.slice a nn cap).ownBlock := fun b hb h => by have := hob b h.symm; omega
  refine ⟨j + 1, r', s.length - s'.length, l ++ [x], cs ++ [u0, u1, u2, u3], ad4, n4, cp4, by omega, by simp, rfl, rfl, by simp [hll], by omega, by omega, by simp [World.setCell]; omega, Lib.hid ?_, Lib.hid ?_, Lib.hid ?_, Lib.hid ?_, Lib.hid ?_, Lib.hid ?_⟩
  · exact gl_set (gl_grown hgr4 (gl_alloc (gl_alloc (gl_step hgl1 hgr (by simp)) X) Y) (fun r hr => .inr (by have := hob r hr; omega))) (.inr (by simp; omega)) _
  · rw [hkeep w.heap.size (by omega) (hlow _ (by omega)) (by omega)]; exact hQ1
  · exact blk_set hL4 3 (.slice ad4 n4 cp4)
  · exact own_ne_set hown4 (p := ⟨LB, 3, none⟩) (fun h => by have := hob4 LB h.symm; omega) _
  · refine rowV_snoc (lockIn_stay ⟨by simp [World.setCell]; omega, fun b hb hp => hkeep b hb (fun h => by have := hol b h.symm; omega) (by omega)⟩ (fun b hb hp => ⟨by omega, by omega, by omega, hnew b hb (fun h => by have := hol b h.symm; omega)⟩) x _ hlv) l cs ?_
    exact rowV_stay ⟨by simp [World.setCell]; omega, fun b hb hp => (hkeep b (by omega) hp.2.2.2 hp.2.2.1).trans (hgl1.block b hb (by simp))⟩ (fun b hb hp => ⟨hp.1, hp.2.1, hp.2.2.1, hnew b (by omega) hp.2.2.2⟩) l cs hrv
  · rw [hdr]; exact hct
theorem rst_lock {RS LB : Nat} {k : Int} {w wr W : World} {j : Nat} {l : List LT} {cs : List Value} {a : Option Addr} {nn cap : Nat} (hk : 0 ≤ k ∧ k ≤ 255) (hj : j ≤ 9) (hll : l.length = j) (hRSL : RS < LB) (hwR : w.heap.size ≤ RS) (hsz : w.heap.size ≤ wr.heap.size)
    (hown : wr.ownsRow (LB + 1) 25 4 (.slice a nn cap) j cs) (hrv : RowV (fun b => w.heap.size ≤ b ∧ b ≠ RS ∧ b ≠ LB ∧ some b ≠ (Value.slice a nn cap).ownBlock) wr l cs) (hW : wr.heap.size ≤ W.heap.size) (hW2 : ∀ b, b ≠ RS → W.heap[b]? = wr.heap[b]?) :
    LockIn (fun b => w.heap.size ≤ b) W (.mk k [] 0 l) (.agg #[.int .u8 k, .string (bs []), .int .i64 0, .slice a nn cap]) := by
  obtain rfl := own_len hown
  unfold LockIn
  refine ⟨hk, by omega, by simp, by omega, _, rfl, ?_⟩
  by_cases hz : nn = 0
  · subst hz
    exact .inl ⟨a, cap, rfl, List.eq_nil_of_length_eq_zero hll⟩
  · obtain ⟨g, c2, e, h1, h2, h3⟩ := own_row hown (by omega) hll hrv
    injection e with e1 e2 e3
    subst e1 e3
    refine .inr ⟨g, 0, cap, by rw [hll], by omega, by omega, ?_⟩
    exact rowIn_stay (p := fun b => b ≠ RS ∧ w.heap.size ≤ b) ⟨hW, fun b hb hp => hW2 b hp.1⟩ (fun b _ h => h.2) l g 0 h2 ⟨by omega, by omega⟩ (rowIn_mono (fun b _ h => ⟨h.2.1, h.1⟩) l g 0 h3)

set_option maxRecDepth 100000 in
set_option maxHeartbeats 4000000 in
theorem rr5Y (s : List UInt8) (a : Nat) (rm : Nat) (hrm : rm ≤ 64) (hlt : a < s.length) (f : Nat) (ih : RRIH f) (hf : rm < f) (m : Nat) (r : List UInt8) (tot : Option (List LT × List UInt8 × Nat)) (hc : s[a] = 38) (hn : numP 58 (s.drop (a + 1)) = some (m, r)) (hm8 : m ≤ 8) (htot : readRow (readL termR limR f) m rm r = tot) (hs : s.length ≤ 100000000000) (w : World) :
    Calls Tryz.prog 83 #[.string (bs s), .int .i64 a, .int .i64 ((rm : Int) + 1)] w (RRPost s.length w (kidsR 5 tot)) := by
  have HV := Lib.hid (numRV_some 58 (by decide) (by omega) hn)
  have hdr : s.drop (s.length - r.length) = r := by
    have h := (numP_back hn).1
    exact (drop_suf (p := Lib.decDigits m ++ [58]) (by rw [h]; simp)).1
  have HDR := Lib.hid hdr
  have HT := Lib.hid htot
  have IH := Lib.hid ih
  obtain ⟨i0, hi0, hi1, hi2, hi3⟩ := info_parts Tryz.infoLock
  clear hn hdr htot ih
  have i1 : (a : Int) < s.length := by omega
  have hb0 : ((rm : Int) + 1 == 0) = false := by simp; omega
  have b115 : (((s[a].toNat : Nat) : Int) == 115) = false := by rw [hc]; rfl
  have b112 : (((s[a].toNat : Nat) : Int) == 112) = false := by rw [hc]; rfl
  have b97 : (((s[a].toNat : Nat) : Int) == 97) = false := by rw [hc]; rfl
  have b111 : (((s[a].toNat : Nat) : Int) == 111) = false := by rw [hc]; rfl
  have b124 : (((s[a].toNat : Nat) : Int) == 124) = false := by rw [hc]; rfl
  have b38 : (((s[a].toNat : Nat) : Int) != 38) = false := by rw [hc]; rfl
  clear hc
  have b8 : decide (8 < (m : Int)) = false := by simp; omega
  go_enter Tryz.func83, Tryz.ntmps83
  go_wp2_with fail
  refine (rlNumber 58 s _ _ (by omega) (by omega) rfl (by omega) _).mono ?_
  rintro e w1 ⟨rfl, rfl⟩
  rw [show ((a : Int) + 1).toNat = a + 1 by omega, HV.out]
  go_wp2
  have HLB : Hid (((w.alloc (.cells #[.int .u8 0, .string (bs []), .int .i64 0, .slice none 0 0] 25)).alloc (.cells #[.int .u8 5, .string (bs []), .int .i64 0, .slice none 0 0] 25)).heap[w.heap.size + 1]? = some (.cells #[.int .u8 5, .string (bs []), .int .i64 0, .slice none 0 0] 25 (0, 0))) := by
    have h := blk_new (w.alloc (.cells #[.int .u8 0, .string (bs []), .int .i64 0, .slice none 0 0] 25)) (.cells #[.int .u8 5, .string (bs []), .int .i64 0, .slice none 0 0] 25)
    rw [show (w.alloc (.cells #[.int .u8 0, .string (bs []), .int .i64 0, .slice none 0 0] 25)).heap.size = w.heap.size + 1 by simp] at h
    exact h
  have HRS : Hid (((w.alloc (.cells #[.int .u8 0, .string (bs []), .int .i64 0, .slice none 0 0] 25)).alloc (.cells #[.int .u8 5, .string (bs []), .int .i64 0, .slice none 0 0] 25)).heap[w.heap.size]? = some (.cells #[.int .u8 0, .string (bs []), .int .i64 0, .slice none 0 0] 25 (0, 0))) := blk_alloc (blk_new w (.cells #[.int .u8 0, .string (bs []), .int .i64 0, .slice none 0 0] 25)) _
  have HGL : Hid (GL [] w ((w.alloc (.cells #[.int .u8 0, .string (bs []), .int .i64 0, .slice none 0 0] 25)).alloc (.cells #[.int .u8 5, .string (bs []), .int .i64 0, .slice none 0 0] 25))) := Lib.hid (by (repeat' (first | with_reducible exact gl_refl _ _ | with_reducible assumption | with_reducible refine gl_alloc ?_ _ | with_reducible refine gl_drewN ?_ _ | with_reducible refine gl_drew ?_ | (with_reducible refine gl_setn ?_ ?_ _; · (first | exact Nat.le_refl _ | (simp; done) | (simp; omega) | omega)) | (with_reducible refine gl_seti ?_ ?_ _; · (simp; done)) | with_reducible refine gl_below (by with_reducible assumption) ?_ | with_reducible refine gl_step (by with_reducible assumption) ?_ (by first | (simp; done) | (simp; omega)) | with_reducible refine gl_grown (by with_reducible assumption) ?_ (by first | (simp; done) | (simp; omega)))))
  have HSTL : Hid (w.heap.size + 1 < ((w.alloc (.cells #[.int .u8 0, .string (bs []), .int .i64 0, .slice none 0 0] 25)).alloc (.cells #[.int .u8 5, .string (bs []), .int .i64 0, .slice none 0 0] 25)).heap.size) := Lib.hid (blk_lt HLB.out)
  generalize ((w.alloc (.cells #[.int .u8 0, .string (bs []), .int .i64 0, .slice none 0 0] 25)).alloc (.cells #[.int .u8 5, .string (bs []), .int .i64 0, .slice none 0 0] 25)) = w1 at *
  go_loopw [2, 17, 18] (fun rv ev iv wr => RSt s (w.heap.size + 1) 5 w f m tot rm rv ev iv wr) (fun _ _ iv _ => m - (intOf iv).toNat)
  case atStart =>
    refine ⟨0, rm, s.length - r.length, [], [], none, 0, 0, by omega, rfl, by first | rfl | (simp; done), by first | rfl | (simp; done), rfl, Nat.le_refl _, by omega, HSTL.out, HGL, HRS, HLB, Lib.hid ⟨rfl, .inl ⟨rfl, rfl⟩⟩, Lib.hid rfl, Lib.hid ?_⟩
    rw [← HT.out, Nat.sub_zero, HDR.out]
    cases readRow (readL termR limR f) m rm r with
    | none => rfl
    | some z => simp
  case round =>
    obtain ⟨j, rj, aj, l, cs, ao, nn, cap, hj, rfl, rfl, rfl, hll, hrj, haj, hLs, hgr, HRSr, HLBr, hown, hrv, hct⟩ := hrel
    have hsz := hgr.out.size
    have fL := blk_cell HLBr.out
    have fL2 := blk_free HLBr.out
    have fQ := blk_cell HRSr.out
    have fQ2 := blk_free HRSr.out
    have lQ := blk_lt HRSr.out
    by_cases hltj : j < m
    · have i2 : (j : Int) < m := by omega
      have hcall := IH.out s aj rj wr (by omega) (by omega) haj (by omega)
      cases ho : readL termR limR f rj (s.drop aj) with
      | none =>
        have HTN : Hid (tot = none) := rst_none (by omega) hct.out ho
        rw [ho] at hcall
        have HC := Lib.hid hcall
        clear hcall ho hct
        go_wp2_with fail
        refine (HC.out).mono ?_
        rintro e w2 ⟨hgl2, kk, kn, kr, kt, ka, km, kc, rfl⟩
        have HQ2 := Lib.hid (blk_gl HRSr.out hgl2 (by simp))
        have fq1 := blk_cell HQ2.out
        have fq2 := blk_free HQ2.out
        have fq3 := blk_lt HQ2.out
        have hg2 : GL [] w w2 := gl_step hgl2 hgr.out (by simp)
        go_wp2
        refine bodyPost_ret (v := .tuple #[.agg #[.int .u8 0, .string (bs []), .int .i64 0, .slice none 0 0], .int .i64 (-1), .int .i64 0]) (by simp [results, Tryz.results83, go_sem, cell_alloc_ltR, fq1, fq2, fq3]) rfl ?_
        show RRPost s.length w (kidsR 5 tot) _ _
        rw [HTN.out]
        exact rr_none (by (repeat' (first | with_reducible exact gl_refl _ _ | with_reducible assumption | with_reducible refine gl_alloc ?_ _ | with_reducible refine gl_drewN ?_ _ | with_reducible refine gl_drew ?_ | (with_reducible refine gl_setn ?_ ?_ _; · (first | exact Nat.le_refl _ | (simp; done) | (simp; omega) | omega)) | (with_reducible refine gl_seti ?_ ?_ _; · (simp; done)) | with_reducible refine gl_below (by with_reducible assumption) ?_ | with_reducible refine gl_step (by with_reducible assumption) ?_ (by first | (simp; done) | (simp; omega)) | with_reducible refine gl_grown (by with_reducible assumption) ?_ (by first | (simp; done) | (simp; omega)))))
      | some z =>
        obtain ⟨x, s', r'⟩ := z
        obtain ⟨⟨pp, hpp⟩, hrr⟩ := readR_suf _ _ _ _ _ _ ho
        have HDR2 := Lib.hid (drop_suf hpp).1
        have hs'l := (drop_suf hpp).2
        have HCT := Lib.hid (rst_some (by omega) hct.out ho)
        rw [ho] at hcall
        have HC := Lib.hid hcall
        clear hcall ho hct hpp
        go_wp2_with fail
        refine (HC.out).mono ?_
        rintro e w2 ⟨hgl2, v, rfl, hlv⟩
        obtain ⟨xk, xt, xn, xkids⟩ := x
        obtain ⟨xa, xc, rfl, _⟩ := lockIn_open hlv
        have HLV := Lib.hid hlv
        have HL2 := Lib.hid (blk_gl HLBr.out hgl2 (by simp))
        have HQ2 := Lib.hid (blk_gl HRSr.out hgl2 (by simp))
        have hown2 := own_gl hown.out hgl2 (by simp)
        have fl1 := blk_cell HL2.out
        have fl2 := blk_free HL2.out
        have fl3 := blk_lt HL2.out
        have hsz2 := hgl2.size
        have hog := own_ltR hown.out
        have hob := own_ge hown.out
        obtain ⟨OB, hOB⟩ : ∃ OB, (Value.slice ao nn cap).ownBlock = OB := ⟨_, rfl⟩
        rw [hOB] at hog hob
        have HOB := Lib.hid hOB
        clear hlv hOB fL fL2 fQ fQ2
        go_wp2_with (at_builtin; go_must (refine wpList_append_own_at _ rfl _ _ 23 rfl (w.heap.size + 1 + 1) 25 i0 (.agg #[.int .u8 0, .string ByteArray.empty, .int .i64 0, .slice none 0 0]) 4 56 Tryz.underlying23 hi0 hi1 hi2 hi3 rfl (by decide) _ j cs rfl (own_alloc (own_alloc hown2 _) _) ⟨w2.heap.size + 1, 0, none⟩ 1 1 [.int .u8 xk, .string (bs xt), .int .i64 xn, .slice xa xkids.length xc] rfl rfl ?c1 ?c2 ?c3 ?c4 ?c5 ?_; (case c1 => (intro i u hi; (match i, hi with | 0, hi => (simp at hi; subst hi; simp [Addr.add]) | 1, hi => (simp at hi; subst hi; simp [Addr.add]) | 2, hi => (simp at hi; subst hi; simp [Addr.add]) | 3, hi => (simp at hi; subst hi; simp [Addr.add]) | i + 4, hi => (simp at hi)))); (case c2 => (intro u hu; simp at hu; rcases hu with rfl | rfl | rfl | rfl <;> rfl)); (case c3 => (unfold maxLen; omega)); (case c4 => omega); (case c5 => (simp; omega)); (intro v' w4 hown4 hgr4 _ hat4); (obtain ⟨ad4, n4, cp4, hv4⟩ := own_slice hown4); (subst hv4); (have hneL : some (w.heap.size + 1) ≠ OB := fun h => by have := hob (w.heap.size + 1) h.symm; omega); (have HL4 := Lib.hid (blk_grown (blk_alloc (blk_alloc HL2.out _) _) hgr4 (by show some (w.heap.size + 1) ≠ (Value.slice ao nn cap).ownBlock; rw [HOB.out]; exact hneL))); (have g4 := blk_cell HL4.out); (have g5 := blk_free HL4.out)))
        go_wp2
        go_roundw
        case rel => exact rst_next hltj hll hrj hrr hLs (by omega) hgr.out hgl2 HQ2.out HL4.out hown.out hrv.out HLV.out hown4 hgr4 hat4 HDR2.out HCT.out
        case measure => simp [intOf]; omega
    · obtain rfl : j = m := by omega
      have HTY : Hid (tot = some (l, s.drop aj, rj)) := by
        show tot = _
        have := hct.out
        rw [Nat.sub_self] at this
        rw [← this]
        simp [readRow]
      clear hct
      have haj2 : s.length - (s.drop aj).length = aj := by rw [List.length_drop]; omega
      go_wp2
      refine bodyPost_ret (v := .tuple #[.agg #[.int .u8 5, .string (bs []), .int .i64 0, .slice ao nn cap], .int .i64 aj, .int .i64 rj]) (by simp [results, Tryz.results83, go_sem, cell_alloc_ltR, fQ, fQ2, lQ, fL, fL2]) rfl ?_
      show RRPost s.length w (kidsR 5 tot) _ _
      rw [HTY.out]
      refine ⟨by have := hgr.out; (repeat' (first | with_reducible exact gl_refl _ _ | with_reducible assumption | with_reducible refine gl_alloc ?_ _ | with_reducible refine gl_drewN ?_ _ | with_reducible refine gl_drew ?_ | (with_reducible refine gl_setn ?_ ?_ _; · (first | exact Nat.le_refl _ | (simp; done) | (simp; omega) | omega)) | (with_reducible refine gl_seti ?_ ?_ _; · (simp; done)) | with_reducible refine gl_below (by with_reducible assumption) ?_ | with_reducible refine gl_step (by with_reducible assumption) ?_ (by first | (simp; done) | (simp; omega)) | with_reducible refine gl_grown (by with_reducible assumption) ?_ (by first | (simp; done) | (simp; omega)))), _, by rw [haj2], rst_lock (RS := w.heap.size) (by omega) (by omega) hll (by omega) (Nat.le_refl _) hsz hown.out hrv.out (by simp [World.setCell]) (fun b hb => ?_)⟩
      repeat (rw [Below.heap_setCell _ _ _ _ (by simpa using hb)])

set_option maxRecDepth 100000 in
set_option maxHeartbeats 4000000 in
theorem rr6Y (s : List UInt8) (a : Nat) (rm : Nat) (hrm : rm ≤ 64) (hlt : a < s.length) (f : Nat) (ih : RRIH f) (hf : rm < f) (m : Nat) (r : List UInt8) (tot : Option (List LT × List UInt8 × Nat)) (hc : s[a] = 124) (hn : numP 58 (s.drop (a + 1)) = some (m, r)) (hm8 : m ≤ 8) (htot : readRow (readL termR limR f) m rm r = tot) (hs : s.length ≤ 100000000000) (w : World) :
    Calls Tryz.prog 83 #[.string (bs s), .int .i64 a, .int .i64 ((rm : Int) + 1)] w (RRPost s.length w (kidsR 6 tot)) := by
  have HV := Lib.hid (numRV_some 58 (by decide) (by omega) hn)
  have hdr : s.drop (s.length - r.length) = r := by
    have h := (numP_back hn).1
    exact (drop_suf (p := Lib.decDigits m ++ [58]) (by rw [h]; simp)).1
  have HDR := Lib.hid hdr
  have HT := Lib.hid htot
  have IH := Lib.hid ih
  obtain ⟨i0, hi0, hi1, hi2, hi3⟩ := info_parts Tryz.infoLock
  clear hn hdr htot ih
  have i1 : (a : Int) < s.length := by omega
  have hb0 : ((rm : Int) + 1 == 0) = false := by simp; omega
  have b115 : (((s[a].toNat : Nat) : Int) == 115) = false := by rw [hc]; rfl
  have b112 : (((s[a].toNat : Nat) : Int) == 112) = false := by rw [hc]; rfl
  have b97 : (((s[a].toNat : Nat) : Int) == 97) = false := by rw [hc]; rfl
  have b111 : (((s[a].toNat : Nat) : Int) == 111) = false := by rw [hc]; rfl
  have b124 : (((s[a].toNat : Nat) : Int) == 124) = true := by rw [hc]; rfl
  clear hc
  have b8 : decide (8 < (m : Int)) = false := by simp; omega
  go_enter Tryz.func83, Tryz.ntmps83
  go_wp2_with fail
  refine (rlNumber 58 s _ _ (by omega) (by omega) rfl (by omega) _).mono ?_
  rintro e w1 ⟨rfl, rfl⟩
  rw [show ((a : Int) + 1).toNat = a + 1 by omega, HV.out]
  go_wp2
  have HLB : Hid (((w.alloc (.cells #[.int .u8 0, .string (bs []), .int .i64 0, .slice none 0 0] 25)).alloc (.cells #[.int .u8 6, .string (bs []), .int .i64 0, .slice none 0 0] 25)).heap[w.heap.size + 1]? = some (.cells #[.int .u8 6, .string (bs []), .int .i64 0, .slice none 0 0] 25 (0, 0))) := by
    have h := blk_new (w.alloc (.cells #[.int .u8 0, .string (bs []), .int .i64 0, .slice none 0 0] 25)) (.cells #[.int .u8 6, .string (bs []), .int .i64 0, .slice none 0 0] 25)
    rw [show (w.alloc (.cells #[.int .u8 0, .string (bs []), .int .i64 0, .slice none 0 0] 25)).heap.size = w.heap.size + 1 by simp] at h
    exact h
  have HRS : Hid (((w.alloc (.cells #[.int .u8 0, .string (bs []), .int .i64 0, .slice none 0 0] 25)).alloc (.cells #[.int .u8 6, .string (bs []), .int .i64 0, .slice none 0 0] 25)).heap[w.heap.size]? = some (.cells #[.int .u8 0, .string (bs []), .int .i64 0, .slice none 0 0] 25 (0, 0))) := blk_alloc (blk_new w (.cells #[.int .u8 0, .string (bs []), .int .i64 0, .slice none 0 0] 25)) _
  have HGL : Hid (GL [] w ((w.alloc (.cells #[.int .u8 0, .string (bs []), .int .i64 0, .slice none 0 0] 25)).alloc (.cells #[.int .u8 6, .string (bs []), .int .i64 0, .slice none 0 0] 25))) := Lib.hid (by (repeat' (first | with_reducible exact gl_refl _ _ | with_reducible assumption | with_reducible refine gl_alloc ?_ _ | with_reducible refine gl_drewN ?_ _ | with_reducible refine gl_drew ?_ | (with_reducible refine gl_setn ?_ ?_ _; · (first | exact Nat.le_refl _ | (simp; done) | (simp; omega) | omega)) | (with_reducible refine gl_seti ?_ ?_ _; · (simp; done)) | with_reducible refine gl_below (by with_reducible assumption) ?_ | with_reducible refine gl_step (by with_reducible assumption) ?_ (by first | (simp; done) | (simp; omega)) | with_reducible refine gl_grown (by with_reducible assumption) ?_ (by first | (simp; done) | (simp; omega)))))
  have HSTL : Hid (w.heap.size + 1 < ((w.alloc (.cells #[.int .u8 0, .string (bs []), .int .i64 0, .slice none 0 0] 25)).alloc (.cells #[.int .u8 6, .string (bs []), .int .i64 0, .slice none 0 0] 25)).heap.size) := Lib.hid (blk_lt HLB.out)
  generalize ((w.alloc (.cells #[.int .u8 0, .string (bs []), .int .i64 0, .slice none 0 0] 25)).alloc (.cells #[.int .u8 6, .string (bs []), .int .i64 0, .slice none 0 0] 25)) = w1 at *
  go_loopw [2, 17, 18] (fun rv ev iv wr => RSt s (w.heap.size + 1) 6 w f m tot rm rv ev iv wr) (fun _ _ iv _ => m - (intOf iv).toNat)
  case atStart =>
    refine ⟨0, rm, s.length - r.length, [], [], none, 0, 0, by omega, rfl, by first | rfl | (simp; done), by first | rfl | (simp; done), rfl, Nat.le_refl _, by omega, HSTL.out, HGL, HRS, HLB, Lib.hid ⟨rfl, .inl ⟨rfl, rfl⟩⟩, Lib.hid rfl, Lib.hid ?_⟩
    rw [← HT.out, Nat.sub_zero, HDR.out]
    cases readRow (readL termR limR f) m rm r with
    | none => rfl
    | some z => simp
  case round =>
    obtain ⟨j, rj, aj, l, cs, ao, nn, cap, hj, rfl, rfl, rfl, hll, hrj, haj, hLs, hgr, HRSr, HLBr, hown, hrv, hct⟩ := hrel
    have hsz := hgr.out.size
    have fL := blk_cell HLBr.out
    have fL2 := blk_free HLBr.out
    have fQ := blk_cell HRSr.out
    have fQ2 := blk_free HRSr.out
    have lQ := blk_lt HRSr.out
    by_cases hltj : j < m
    · have i2 : (j : Int) < m := by omega
      have hcall := IH.out s aj rj wr (by omega) (by omega) haj (by omega)
      cases ho : readL termR limR f rj (s.drop aj) with
      | none =>
        have HTN : Hid (tot = none) := rst_none (by omega) hct.out ho
        rw [ho] at hcall
        have HC := Lib.hid hcall
        clear hcall ho hct
        go_wp2_with fail
        refine (HC.out).mono ?_
        rintro e w2 ⟨hgl2, kk, kn, kr, kt, ka, km, kc, rfl⟩
        have HQ2 := Lib.hid (blk_gl HRSr.out hgl2 (by simp))
        have fq1 := blk_cell HQ2.out
        have fq2 := blk_free HQ2.out
        have fq3 := blk_lt HQ2.out
        have hg2 : GL [] w w2 := gl_step hgl2 hgr.out (by simp)
        go_wp2
        refine bodyPost_ret (v := .tuple #[.agg #[.int .u8 0, .string (bs []), .int .i64 0, .slice none 0 0], .int .i64 (-1), .int .i64 0]) (by simp [results, Tryz.results83, go_sem, cell_alloc_ltR, fq1, fq2, fq3]) rfl ?_
        show RRPost s.length w (kidsR 6 tot) _ _
        rw [HTN.out]
        exact rr_none (by (repeat' (first | with_reducible exact gl_refl _ _ | with_reducible assumption | with_reducible refine gl_alloc ?_ _ | with_reducible refine gl_drewN ?_ _ | with_reducible refine gl_drew ?_ | (with_reducible refine gl_setn ?_ ?_ _; · (first | exact Nat.le_refl _ | (simp; done) | (simp; omega) | omega)) | (with_reducible refine gl_seti ?_ ?_ _; · (simp; done)) | with_reducible refine gl_below (by with_reducible assumption) ?_ | with_reducible refine gl_step (by with_reducible assumption) ?_ (by first | (simp; done) | (simp; omega)) | with_reducible refine gl_grown (by with_reducible assumption) ?_ (by first | (simp; done) | (simp; omega)))))
      | some z =>
        obtain ⟨x, s', r'⟩ := z
        obtain ⟨⟨pp, hpp⟩, hrr⟩ := readR_suf _ _ _ _ _ _ ho
        have HDR2 := Lib.hid (drop_suf hpp).1
        have hs'l := (drop_suf hpp).2
        have HCT := Lib.hid (rst_some (by omega) hct.out ho)
        rw [ho] at hcall
        have HC := Lib.hid hcall
        clear hcall ho hct hpp
        go_wp2_with fail
        refine (HC.out).mono ?_
        rintro e w2 ⟨hgl2, v, rfl, hlv⟩
        obtain ⟨xk, xt, xn, xkids⟩ := x
        obtain ⟨xa, xc, rfl, _⟩ := lockIn_open hlv
        have HLV := Lib.hid hlv
        have HL2 := Lib.hid (blk_gl HLBr.out hgl2 (by simp))
        have HQ2 := Lib.hid (blk_gl HRSr.out hgl2 (by simp))
        have hown2 := own_gl hown.out hgl2 (by simp)
        have fl1 := blk_cell HL2.out
        have fl2 := blk_free HL2.out
        have fl3 := blk_lt HL2.out
        have hsz2 := hgl2.size
        have hog := own_ltR hown.out
        have hob := own_ge hown.out
        obtain ⟨OB, hOB⟩ : ∃ OB, (Value.slice ao nn cap).ownBlock = OB := ⟨_, rfl⟩
        rw [hOB] at hog hob
        have HOB := Lib.hid hOB
        clear hlv hOB fL fL2 fQ fQ2
        go_wp2_with (at_builtin; go_must (refine wpList_append_own_at _ rfl _ _ 23 rfl (w.heap.size + 1 + 1) 25 i0 (.agg #[.int .u8 0, .string ByteArray.empty, .int .i64 0, .slice none 0 0]) 4 56 Tryz.underlying23 hi0 hi1 hi2 hi3 rfl (by decide) _ j cs rfl (own_alloc (own_alloc hown2 _) _) ⟨w2.heap.size + 1, 0, none⟩ 1 1 [.int .u8 xk, .string (bs xt), .int .i64 xn, .slice xa xkids.length xc] rfl rfl ?c1 ?c2 ?c3 ?c4 ?c5 ?_; (case c1 => (intro i u hi; (match i, hi with | 0, hi => (simp at hi; subst hi; simp [Addr.add]) | 1, hi => (simp at hi; subst hi; simp [Addr.add]) | 2, hi => (simp at hi; subst hi; simp [Addr.add]) | 3, hi => (simp at hi; subst hi; simp [Addr.add]) | i + 4, hi => (simp at hi)))); (case c2 => (intro u hu; simp at hu; rcases hu with rfl | rfl | rfl | rfl <;> rfl)); (case c3 => (unfold maxLen; omega)); (case c4 => omega); (case c5 => (simp; omega)); (intro v' w4 hown4 hgr4 _ hat4); (obtain ⟨ad4, n4, cp4, hv4⟩ := own_slice hown4); (subst hv4); (have hneL : some (w.heap.size + 1) ≠ OB := fun h => by have := hob (w.heap.size + 1) h.symm; omega); (have HL4 := Lib.hid (blk_grown (blk_alloc (blk_alloc HL2.out _) _) hgr4 (by show some (w.heap.size + 1) ≠ (Value.slice ao nn cap).ownBlock; rw [HOB.out]; exact hneL))); (have g4 := blk_cell HL4.out); (have g5 := blk_free HL4.out)))
        go_wp2
        go_roundw
        case rel => exact rst_next hltj hll hrj hrr hLs (by omega) hgr.out hgl2 HQ2.out HL4.out hown.out hrv.out HLV.out hown4 hgr4 hat4 HDR2.out HCT.out
        case measure => simp [intOf]; omega
    · obtain rfl : j = m := by omega
      have HTY : Hid (tot = some (l, s.drop aj, rj)) := by
        show tot = _
        have := hct.out
        rw [Nat.sub_self] at this
        rw [← this]
        simp [readRow]
      clear hct
      have haj2 : s.length - (s.drop aj).length = aj := by rw [List.length_drop]; omega
      go_wp2
      refine bodyPost_ret (v := .tuple #[.agg #[.int .u8 6, .string (bs []), .int .i64 0, .slice ao nn cap], .int .i64 aj, .int .i64 rj]) (by simp [results, Tryz.results83, go_sem, cell_alloc_ltR, fQ, fQ2, lQ, fL, fL2]) rfl ?_
      show RRPost s.length w (kidsR 6 tot) _ _
      rw [HTY.out]
      refine ⟨by have := hgr.out; (repeat' (first | with_reducible exact gl_refl _ _ | with_reducible assumption | with_reducible refine gl_alloc ?_ _ | with_reducible refine gl_drewN ?_ _ | with_reducible refine gl_drew ?_ | (with_reducible refine gl_setn ?_ ?_ _; · (first | exact Nat.le_refl _ | (simp; done) | (simp; omega) | omega)) | (with_reducible refine gl_seti ?_ ?_ _; · (simp; done)) | with_reducible refine gl_below (by with_reducible assumption) ?_ | with_reducible refine gl_step (by with_reducible assumption) ?_ (by first | (simp; done) | (simp; omega)) | with_reducible refine gl_grown (by with_reducible assumption) ?_ (by first | (simp; done) | (simp; omega)))), _, by rw [haj2], rst_lock (RS := w.heap.size) (by omega) (by omega) hll (by omega) (Nat.le_refl _) hsz hown.out hrv.out (by simp [World.setCell]) (fun b hb => ?_)⟩
      repeat (rw [Below.heap_setCell _ _ _ _ (by simpa using hb)])

theorem rrN : ∀ f, RRIH f
  | 0 => fun s a room w h _ _ _ => by omega
  | f + 1 => fun s a room w hf h64 ha hs => by
    by_cases hlt : a < s.length
    · rw [List.drop_eq_getElem_cons hlt]
      match room, hf, h64 with
      | 0, _, _ =>
        have h0 : readL termR limR (f + 1) 0 (s[a] :: s.drop (a + 1)) = none := by rw [readL]
        rw [h0, show ((0 : Nat) : Int) = 0 from rfl]
        exact rrFull s a hlt hs w
      | rm + 1, hf, h64 =>
        rw [readL]
        have hrm : rm ≤ 64 := by omega
        rw [show (((rm + 1 : Nat)) : Int) = (rm : Int) + 1 by omega]
        by_cases h1 : s[a] = 115
        · rw [if_pos (.inl h1), h1]
          cases hc : termR (s.drop (a + 1)) with
          | none => exact rr1N s a rm hrm hlt h1 hc hs w
          | some z => exact rr1Y s a rm hrm hlt z.1 z.2 h1 hc hs w
        by_cases h2 : s[a] = 112
        · rw [if_pos (.inr h2), h2]
          cases hc : termR (s.drop (a + 1)) with
          | none => exact rr2N s a rm hrm hlt h2 hc hs w
          | some z => exact rr2Y s a rm hrm hlt z.1 z.2 h2 hc hs w
        rw [if_neg (by simp [h1, h2])]
        by_cases h3 : s[a] = 97
        · rw [if_pos (.inl h3), h3]
          cases hc : numP 59 (s.drop (a + 1)) with
          | none => exact rr3N s a rm hrm hlt h3 hc hs w
          | some z => exact rr3Y s a rm hrm hlt z.1 z.2 h3 hc hs w
        by_cases h4 : s[a] = 111
        · rw [if_pos (.inr h4), h4]
          cases hc : numP 59 (s.drop (a + 1)) with
          | none => exact rr4N s a rm hrm hlt h4 hc hs w
          | some z => exact rr4Y s a rm hrm hlt z.1 z.2 h4 hc hs w
        rw [if_neg (by simp [h3, h4])]
        have hne : ∀ d : UInt8, s[a] ≠ d → (((s[a].toNat : Nat) : Int) == (d.toNat : Nat)) = false := fun d hd => by
          have : s[a].toNat ≠ d.toNat := fun h => hd (UInt8.toNat_inj.1 h)
          simp; omega
        by_cases h5 : s[a] = 38
        · rw [if_pos (.inl h5), h5]
          cases hc : numP 58 (s.drop (a + 1)) with
          | none => exact rr5N s a rm hrm hlt h5 hc hs w
          | some z =>
            obtain ⟨n, s2⟩ := z
            simp only [limR]
            by_cases h8 : n ≤ 8
            · rw [if_pos h8]
              have h := rr5Y s a rm hrm hlt f (rrN f) (by omega) n s2 _ h5 hc h8 rfl hs w
              refine h.mono fun e w' hp => ?_
              unfold kidsR at hp
              simp only
              cases hq : readRow (readL termR limR f) n rm s2 with
              | none => rw [hq] at hp; exact hp
              | some y => rw [hq] at hp; exact hp
            · rw [if_neg h8]
              exact rr5B s a rm hrm hlt n s2 h5 hc (by omega) hs w
        by_cases h6 : s[a] = 124
        · rw [if_pos (.inr h6), h6]
          cases hc : numP 58 (s.drop (a + 1)) with
          | none => exact rr6N s a rm hrm hlt h6 hc hs w
          | some z =>
            obtain ⟨n, s2⟩ := z
            simp only [limR]
            by_cases h8 : n ≤ 8
            · rw [if_pos h8]
              have h := rr6Y s a rm hrm hlt f (rrN f) (by omega) n s2 _ h6 hc h8 rfl hs w
              refine h.mono fun e w' hp => ?_
              unfold kidsR at hp
              simp only
              cases hq : readRow (readL termR limR f) n rm s2 with
              | none => rw [hq] at hp; exact hp
              | some y => rw [hq] at hp; exact hp
            · rw [if_neg h8]
              exact rr6B s a rm hrm hlt n s2 h6 hc (by omega) hs w
        rw [if_neg (by simp [h5, h6])]
        refine rrOther s a rm hrm hlt (hne 115 h1) (hne 112 h2) (hne 97 h3) (hne 111 h4) (hne 124 h6) ?_ hs w
        have : s[a].toNat ≠ (38 : UInt8).toNat := fun h => h5 (UInt8.toNat_inj.1 h)
        simp at this ⊢
        omega
    · rw [List.drop_eq_nil_of_le (by omega)]
      have : readL termR limR (f + 1) room [] = none := by cases room <;> rfl
      rw [this]
      exact rrEnd s a room (by omega) hs w

def RlReadPost (w : World) (o : Option LT) (e : Ending) (w' : World) : Prop := Below w.heap.size w w' ∧
  match o with
  | none => e = .returned (.tuple #[.agg #[.int .u8 0, .string (bs []), .int .i64 0, .slice none 0 0], .int .i64 110])
  | some x => ∃ v, e = .returned (.tuple #[v, .int .i64 0]) ∧ LockIn (fun b => w.heap.size ≤ b) w' x v

set_option maxRecDepth 100000 in
set_option maxHeartbeats 4000000 in
theorem rlRead (s : List UInt8) (hsl : s.length ≤ 100000000000) (w : World) :
    Calls Tryz.prog 25 #[.string (bs s)] w (RlReadPost w (readP termR limR s)) := by
  have hcall := fun (W : World) => rrN 65 s 0 64 W (by omega) (by omega) (by omega) hsl
  rw [List.drop_zero] at hcall
  have hP : readP termR limR s = match readL termR limR 65 64 s with | some (x, [], _) => if rightL x then some x else none | _ => none := rfl
  cases ho : readL termR limR 65 64 s with
  | none =>
    have HP : Hid (readP termR limR s = none) := by show _ = none; rw [hP, ho]
    rw [ho] at hcall
    have HC := Lib.hid hcall
    have hb : ((-1 : Int) != s.length) = true := by first | (simp; done) | (simp; omega)
    clear hP ho hcall
    go_enter Tryz.func25, Tryz.ntmps25
    go_wp2_with fail
    refine (HC.out _).mono ?_
    rintro e w1 ⟨hg1, kk, kn, kr, kt, ka, km, kc, rfl⟩
    have HB1 := Lib.hid (blk_gl (blk_new w (.cells #[.int .u8 0, .string (bs []), .int .i64 0, .slice none 0 0] 25)) hg1 (by simp))
    have f1 := blk_cell HB1.out
    have f2 := blk_free HB1.out
    have f3 := blk_lt HB1.out
    have hg : GL [] w w1 := gl_step hg1 (gl_alloc (gl_refl _ _) _) (by simp)
    go_wp2
    refine bodyPost_ret (v := .tuple #[.agg #[.int .u8 0, .string (bs []), .int .i64 0, .slice none 0 0], .int .i64 110]) (by simp [results, Tryz.results25, go_sem, cell_alloc_ltR, f1, f2, f3]) rfl ?_
    show RlReadPost w (readP termR limR s) _ _
    rw [HP.out]
    exact ⟨gl_to_below (by (repeat' (first | with_reducible exact gl_refl _ _ | with_reducible assumption | with_reducible refine gl_alloc ?_ _ | with_reducible refine gl_drewN ?_ _ | with_reducible refine gl_drew ?_ | (with_reducible refine gl_setn ?_ ?_ _; · (first | exact Nat.le_refl _ | (simp; done) | (simp; omega) | omega)) | (with_reducible refine gl_seti ?_ ?_ _; · (simp; done)) | with_reducible refine gl_below (by with_reducible assumption) ?_ | with_reducible refine gl_step (by with_reducible assumption) ?_ (by first | (simp; done) | (simp; omega)) | with_reducible refine gl_grown (by with_reducible assumption) ?_ (by first | (simp; done) | (simp; omega))))), rfl⟩
  | some z =>
    obtain ⟨x, s', r'⟩ := z
    obtain ⟨⟨pp, hpp⟩, hrr⟩ := readR_suf _ _ _ _ _ _ ho
    have hs'l : s'.length ≤ s.length := by
      have := congrArg List.length hpp
      rw [List.length_append] at this
      omega
    rw [ho] at hcall
    by_cases hz : s' = []
    · subst hz
      cases hx : rightL x with
      | false =>
        have HP : Hid (readP termR limR s = none) := by show _ = none; rw [hP, ho]; simp [hx]
        have HX := Lib.hid hx
        have HC := Lib.hid hcall
        clear hP ho hcall hx hpp
        go_enter Tryz.func25, Tryz.ntmps25
        go_wp2_with fail
        refine (HC.out _).mono ?_
        rintro e w1 ⟨hg1, v, rfl, hlv⟩
        have hlr := fun (W : World) (hg : GL [] w1 W) => rlRight x _ _ W (lockIn_gl hg _ _ hlv)
        rw [HX.out] at hlr
        obtain ⟨k, t, n, ks⟩ := x
        obtain ⟨ad, c, rfl, _⟩ := lockIn_open hlv
        have HR := Lib.hid hlr
        have HB1 := Lib.hid (blk_gl (blk_new w (.cells #[.int .u8 0, .string (bs []), .int .i64 0, .slice none 0 0] 25)) hg1 (by simp))
        have f1 := blk_cell HB1.out
        have f2 := blk_free HB1.out
        have f3 := blk_lt HB1.out
        have hg : GL [] w w1 := gl_step hg1 (gl_alloc (gl_refl _ _) _) (by simp)
        clear hlr hlv
        go_wp2_with fail
        refine (HR.out _ (by (repeat' (first | with_reducible exact gl_refl _ _ | with_reducible assumption | with_reducible refine gl_alloc ?_ _ | with_reducible refine gl_drewN ?_ _ | with_reducible refine gl_drew ?_ | (with_reducible refine gl_setn ?_ ?_ _; · (first | exact Nat.le_refl _ | (simp; done) | (simp; omega) | omega)) | (with_reducible refine gl_seti ?_ ?_ _; · (simp; done)) | with_reducible refine gl_below (by with_reducible assumption) ?_ | with_reducible refine gl_step (by with_reducible assumption) ?_ (by first | (simp; done) | (simp; omega)) | with_reducible refine gl_grown (by with_reducible assumption) ?_ (by first | (simp; done) | (simp; omega)))))).mono ?_
        rintro e w2 ⟨rfl, hb2⟩
        have HB2 := Lib.hid (blk_below (blk_alloc HB1.out _) hb2 (by simp; omega))
        have g1 := blk_cell HB2.out
        have g2 := blk_free HB2.out
        have g3 := blk_lt HB2.out
        have hg2 : GL [] w w2 := gl_below hb2 (gl_alloc hg _)
        clear f1 f2 f3
        go_wp2
        refine bodyPost_ret (v := .tuple #[.agg #[.int .u8 0, .string (bs []), .int .i64 0, .slice none 0 0], .int .i64 110]) (by simp [results, Tryz.results25, go_sem, cell_alloc_ltR, g1, g2, g3]) rfl ?_
        show RlReadPost w (readP termR limR s) _ _
        rw [HP.out]
        exact ⟨gl_to_below (by (repeat' (first | with_reducible exact gl_refl _ _ | with_reducible assumption | with_reducible refine gl_alloc ?_ _ | with_reducible refine gl_drewN ?_ _ | with_reducible refine gl_drew ?_ | (with_reducible refine gl_setn ?_ ?_ _; · (first | exact Nat.le_refl _ | (simp; done) | (simp; omega) | omega)) | (with_reducible refine gl_seti ?_ ?_ _; · (simp; done)) | with_reducible refine gl_below (by with_reducible assumption) ?_ | with_reducible refine gl_step (by with_reducible assumption) ?_ (by first | (simp; done) | (simp; omega)) | with_reducible refine gl_grown (by with_reducible assumption) ?_ (by first | (simp; done) | (simp; omega))))), rfl⟩
      | true =>
        have HP : Hid (readP termR limR s = some x) := by show _ = some x; rw [hP, ho]; simp [hx]
        have HX := Lib.hid hx
        have HC := Lib.hid hcall
        clear hP ho hcall hx hpp
        go_enter Tryz.func25, Tryz.ntmps25
        go_wp2_with fail
        refine (HC.out _).mono ?_
        rintro e w1 ⟨hg1, v, rfl, hlv⟩
        have hlr := fun (W : World) (hg : GL [] w1 W) => rlRight x _ _ W (lockIn_gl hg _ _ hlv)
        rw [HX.out] at hlr
        obtain ⟨k, t, n, ks⟩ := x
        obtain ⟨ad, c, rfl, _⟩ := lockIn_open hlv
        have HR := Lib.hid hlr
        have HLV := Lib.hid hlv
        have HB1 := Lib.hid (blk_gl (blk_new w (.cells #[.int .u8 0, .string (bs []), .int .i64 0, .slice none 0 0] 25)) hg1 (by simp))
        have f1 := blk_cell HB1.out
        have f2 := blk_free HB1.out
        have f3 := blk_lt HB1.out
        have hg : GL [] w w1 := gl_step hg1 (gl_alloc (gl_refl _ _) _) (by simp)
        clear hlr hlv
        go_wp2_with fail
        refine (HR.out _ (by (repeat' (first | with_reducible exact gl_refl _ _ | with_reducible assumption | with_reducible refine gl_alloc ?_ _ | with_reducible refine gl_drewN ?_ _ | with_reducible refine gl_drew ?_ | (with_reducible refine gl_setn ?_ ?_ _; · (first | exact Nat.le_refl _ | (simp; done) | (simp; omega) | omega)) | (with_reducible refine gl_seti ?_ ?_ _; · (simp; done)) | with_reducible refine gl_below (by with_reducible assumption) ?_ | with_reducible refine gl_step (by with_reducible assumption) ?_ (by first | (simp; done) | (simp; omega)) | with_reducible refine gl_grown (by with_reducible assumption) ?_ (by first | (simp; done) | (simp; omega)))))).mono ?_
        rintro e w2 ⟨rfl, hb2⟩
        have HB2 := Lib.hid (blk_below (blk_alloc HB1.out _) hb2 (by simp; omega))
        have g1 := blk_cell HB2.out
        have g2 := blk_free HB2.out
        have g3 := blk_lt HB2.out
        have HA2 := Lib.hid (blk_below (blk_new w1 (.cells #[.int .u8 k, .string (bs t), .int .i64 n, .slice ad ks.length c] 25)) hb2 (by simp))
        have a1 := blk_cell HA2.out
        have a2 := blk_free HA2.out
        have hg2 : GL [] w w2 := gl_below hb2 (gl_alloc hg _)
        have hs1 := hg1.size
        have hs2 := hb2.size
        clear f1 f2 f3
        go_wp2
        refine bodyPost_ret (v := .tuple #[.agg #[.int .u8 k, .string (bs t), .int .i64 n, .slice ad ks.length c], .int .i64 0]) (by simp [results, Tryz.results25, go_sem, cell_alloc_ltR, g1, g2, g3, a1, a2]) rfl ?_
        show RlReadPost w (readP termR limR s) _ _
        rw [HP.out]
        refine ⟨gl_to_below (by (repeat' (first | with_reducible exact gl_refl _ _ | with_reducible assumption | with_reducible refine gl_alloc ?_ _ | with_reducible refine gl_drewN ?_ _ | with_reducible refine gl_drew ?_ | (with_reducible refine gl_setn ?_ ?_ _; · (first | exact Nat.le_refl _ | (simp; done) | (simp; omega) | omega)) | (with_reducible refine gl_seti ?_ ?_ _; · (simp; done)) | with_reducible refine gl_below (by with_reducible assumption) ?_ | with_reducible refine gl_step (by with_reducible assumption) ?_ (by first | (simp; done) | (simp; omega)) | with_reducible refine gl_grown (by with_reducible assumption) ?_ (by first | (simp; done) | (simp; omega))))), _, rfl, ?_⟩
        refine lockIn_stay (p := fun b => w.heap.size + 1 ≤ b) (w := w1) ⟨by simp [World.setCell]; simp at hs2; omega, fun b hb hp => ?_⟩ (fun b _ h => by omega) _ _ (lockIn_mono (fun b _ h => by simpa using h) _ _ HLV.out)
        repeat (rw [Below.heap_setCell _ _ _ _ (by simp; omega)])
        rw [hb2.block b (by simp; omega), Below.heap_alloc _ _ _ hb]
    · have HP : Hid (readP termR limR s = none) := by
        show _ = none
        rw [hP, ho]
        cases s' with
        | nil => exact absurd rfl hz
        | cons a b => rfl
      have hl : 1 ≤ s'.length := by
        cases s' with
        | nil => exact absurd rfl hz
        | cons a b => simp
      have hb : (((s.length - s'.length : Nat) : Int) != s.length) = true := by simp; omega
      have HC := Lib.hid hcall
      clear hP ho hcall hpp hz
      go_enter Tryz.func25, Tryz.ntmps25
      go_wp2_with fail
      refine (HC.out _).mono ?_
      rintro e w1 ⟨hg1, v, rfl, hlv⟩
      obtain ⟨k, t, n, ks⟩ := x
      obtain ⟨ad, c, rfl, _⟩ := lockIn_open hlv
      have HB1 := Lib.hid (blk_gl (blk_new w (.cells #[.int .u8 0, .string (bs []), .int .i64 0, .slice none 0 0] 25)) hg1 (by simp))
      have f1 := blk_cell HB1.out
      have f2 := blk_free HB1.out
      have f3 := blk_lt HB1.out
      have hg : GL [] w w1 := gl_step hg1 (gl_alloc (gl_refl _ _) _) (by simp)
      clear hlv
      go_wp2
      refine bodyPost_ret (v := .tuple #[.agg #[.int .u8 0, .string (bs []), .int .i64 0, .slice none 0 0], .int .i64 110]) (by simp [results, Tryz.results25, go_sem, cell_alloc_ltR, f1, f2, f3]) rfl ?_
      show RlReadPost w (readP termR limR s) _ _
      rw [HP.out]
      exact ⟨gl_to_below (by (repeat' (first | with_reducible exact gl_refl _ _ | with_reducible assumption | with_reducible refine gl_alloc ?_ _ | with_reducible refine gl_drewN ?_ _ | with_reducible refine gl_drew ?_ | (with_reducible refine gl_setn ?_ ?_ _; · (first | exact Nat.le_refl _ | (simp; done) | (simp; omega) | omega)) | (with_reducible refine gl_seti ?_ ?_ _; · (simp; done)) | with_reducible refine gl_below (by with_reducible assumption) ?_ | with_reducible refine gl_step (by with_reducible assumption) ?_ (by first | (simp; done) | (simp; omega)) | with_reducible refine gl_grown (by with_reducible assumption) ?_ (by first | (simp; done) | (simp; omega))))), rfl⟩

end Go.Proofs.YtfmckibiblhakaaGreatDoor
