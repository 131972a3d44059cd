/- The reference opens a term. -/
import Derived.Test.YtchbhainmalbbaaDoorRefH
import Derived.Deep.RegionLaw
import Derived.StillTailTactics
import Derived.Deep.AppendLies
import Derived.Deep.RegionHeld3
namespace Go.Proofs.YtchbhainmalbbaaDoor
open Go.RowKit

theorem Tryd.infoTerm : (Tryd.prog.info? 22).map (fun i => (i.zero, i.size, i.bytes)) = some (some (.string ByteArray.empty), 1, 16) := by kernel_rfl

def numOf (x : Sh) : Nat := if x.op.toNat = 110 then x.n else 0

/-- What 'Open' hands back. -/
def OpenPost (w : World) (o : Option Sh) (e : Ending) (w' : World) : Prop :=
  match o with
  | none => e = .returned (.tuple #[.agg #[.int .u8 0, .int .i64 0, .string (bs []), .slice none 0 0], .bool false]) ∧ Below w.heap.size w w'
  | some x => ∃ ad n cap, e = .returned (.tuple #[.agg #[.int .u8 x.op.toNat, .int .i64 (numOf x), .string (bs x.text), .slice ad n cap], .bool true]) ∧
      w'.ownsRow w.heap.size 22 1 (.slice ad n cap) x.kids.length (x.kids.map fun k => .string (bs k)) ∧ Below w.heap.size w w'

theorem open_offs {l : List UInt8} {x : Sh} (hrd : rd 64 l = some x) (k : Nat) (hk : k + 1 < (kidsOff x 0).length) : k < x.kids.length ∧
    ∃ a e : Nat, (kidsOff x 0)[k]? = some a ∧ (kidsOff x 0)[k + 1]? = some e ∧ a ≤ e ∧ e ≤ l.length ∧ x.kids[k]? = some ((l.drop a).take (e - a)) := by
  obtain ⟨_, _, q3⟩ := rd_parts hrd
  by_cases h : x.op.toNat = 110 ∨ x.op.toNat = 116
  · simp [kidsOff, h] at hk
  · have e : kidsOff x 0 = offsL (x.len - sumL x.kids) x.kids := by simp [kidsOff, h]
    rw [e] at hk ⊢
    rw [offsL_length] at hk
    obtain ⟨_, hc, _⟩ := q3 (by omega) (by omega)
    exact ⟨by omega, cutsAt_get _ _ k hc (by omega)⟩
theorem kids32 {l : List UInt8} {x : Sh} (hrd : rd 64 l = some x) : x.kids.length ≤ 32 := by
  obtain ⟨q1, q2, q3⟩ := rd_parts hrd
  by_cases h : x.op.toNat = 110
  · rw [(q1 h).2.1]; simp
  · by_cases h2 : x.op.toNat = 116
    · rw [(q2 h2).1]; simp
    · exact (q3 h h2).2.2.2.2
theorem open_end {l : List UInt8} {x : Sh} (hrd : rd 64 l = some x) (k : Nat) (hk : k ≤ x.kids.length) (hn : ¬ k + 1 < (kidsOff x 0).length) : k = x.kids.length := by
  obtain ⟨q1, q2, _⟩ := rd_parts hrd
  by_cases h : x.op.toNat = 110 ∨ x.op.toNat = 116
  · have : x.kids = [] := by
      rcases h with h | h
      · exact (q1 h).2.1
      · exact (q2 h).1
    rw [this] at hk ⊢
    simpa using hk
  · have e : kidsOff x 0 = offsL (x.len - sumL x.kids) x.kids := by simp [kidsOff, h]
    rw [e, offsL_length] at hn
    omega

/-- What holds at the head of the loop over the parts. -/
def OLoop (x : Sh) (w : World) (X P : Nat) (q0 q1 q2 q3 : Value) (sl : Value) (iv : Value) (wr : World) : Prop :=
  ∃ (k b2 : Nat) (kv : Value) (C N : Int) (T : List UInt8), C = x.op.toNat ∧ N = numOf x ∧ T = x.text ∧ iv = .int .i64 ((k : Int) + 1) ∧ k ≤ x.kids.length ∧
    wr.heap[w.heap.size]? = some (.cells #[.int .u8 0, .int .i64 0, .string (bs []), .slice none 0 0] 80 (0, 0)) ∧
    wr.heap[X]? = some (.cells #[q0, q1, q2, q3, sl] 114 (0, 0)) ∧
    wr.heap[P]? = some (.cells #[.int .u8 C, .int .i64 N, .string (bs T), kv] 80 (0, 0)) ∧
    wr.ownsRow b2 3 1 sl (kidsOff x 0).length ((kidsOff x 0).map fun i : Nat => .int .i64 i) ∧
    wr.ownsRow w.heap.size 22 1 kv k ((x.kids.take k).map fun s => .string (bs s)) ∧ Below w.heap.size w wr

theorem oloop_start {x : Sh} {w w1 w2 : World} {q0 q1 q2 q3 sl : Value} {C N : Int} {T : List UInt8} (hC : C = x.op.toNat) (hN : N = numOf x) (hT : T = x.text)
    (hz : w1.heap[w.heap.size]? = some (.cells #[.int .u8 0, .int .i64 0, .string (bs []), .slice none 0 0] 80 (0, 0)))
    (hb1 : Below w.heap.size w w1) (hb2 : Below w1.heap.size w1 w2) (hown : w2.ownsRow w1.heap.size 3 1 sl (kidsOff x 0).length ((kidsOff x 0).map fun i : Nat => .int .i64 i)) :
    OLoop x w w2.heap.size (w2.heap.size + 1) q0 q1 q2 q3 sl (.int .i64 1) ((w2.alloc (.cells #[q0, q1, q2, q3, sl] 114)).alloc (.cells #[.int .u8 C, .int .i64 N, .string (bs T), .slice none 0 0] 80)) := by
  refine ⟨0, w1.heap.size, .slice none 0 0, C, N, T, hC, hN, hT, rfl, by omega, ?_, ?_, ?_, own_alloc (own_alloc hown _) _, ⟨rfl, Or.inl ⟨rfl, rfl⟩⟩, ?_⟩
  · exact blk_alloc (blk_alloc (blk_below hz hb2 (blk_lt hz)) _) _
  · exact blk_alloc (blk_new _ _) _
  · have := blk_new (w2.alloc (.cells #[q0, q1, q2, q3, sl] 114)) (.cells #[.int .u8 C, .int .i64 N, .string (bs T), .slice none 0 0] 80)
    simpa using this
  · have := hb1.size
    (repeat' (first | with_reducible exact Below.refl _ _ | with_reducible assumption | with_reducible refine below_alloc ?_ ?_ _ | with_reducible refine Below.setCell ?_ ?_ _ | with_reducible refine Below.drew ?_ | with_reducible refine below_drewN ?_ _ | with_reducible refine below_step (by assumption) ?_ ?_ | (with_reducible refine Below.trans ?_ (Below.mono (by assumption) ?_)) | exact Nat.le_refl _ | (simp; done) | (simp; omega) | omega))

theorem oloop_next {x : Sh} {w wr w4 : World} {X P k b2 gg cap4 : Nat} {q0 q1 q2 q3 sl kv : Value} {C N : Int} {T el : List UInt8} (hC : C = x.op.toNat) (hN : N = numOf x) (hT : T = x.text)
    (hkl : k < x.kids.length) (hkk : x.kids[k]? = some el)
    (hR : wr.heap[w.heap.size]? = some (.cells #[.int .u8 0, .int .i64 0, .string (bs []), .slice none 0 0] 80 (0, 0)))
    (hX : wr.heap[X]? = some (.cells #[q0, q1, q2, q3, sl] 114 (0, 0)))
    (hP : wr.heap[P]? = some (.cells #[.int .u8 C, .int .i64 N, .string (bs T), kv] 80 (0, 0))) (hPw : w.heap.size < P)
    (hO : wr.ownsRow b2 3 1 sl (kidsOff x 0).length ((kidsOff x 0).map fun i : Nat => .int .i64 i))
    (hown : wr.ownsRow w.heap.size 22 1 kv k ((x.kids.take k).map fun s => .string (bs s))) (hbel : Below w.heap.size w wr)
    (hown4 : w4.ownsRow w.heap.size 22 1 (.slice (some ⟨gg, 0, none⟩) (k + 1) cap4) (k + 1) (((x.kids.take k).map fun s => Value.string (bs s)) ++ [.string (bs el)]))
    (hgr : ((wr.alloc (.cells #[.string (bs el)] 22)).drew).grownBy w4 kv.ownBlock) :
    OLoop x w X P q0 q1 q2 q3 sl (.int .i64 ((k : Int) + 1 + 1)) (w4.setCell ⟨P, 3, none⟩ (.slice (some ⟨gg, 0, none⟩) (k + 1) cap4)) := by
  have hneP := own_ne hown hP (by decide)
  have hneX := own_ne hown hX (by decide)
  have hneR := own_ne hown hR (by decide)
  have hPR : P ≠ w.heap.size := by omega
  have hPX : X ≠ P := by
    intro e; subst e; rw [hX] at hP; simp at hP
  have hR4 : w4.heap[w.heap.size]? = _ := blk_grown (w := (wr.alloc _).drew) (blk_alloc hR _) hgr hneR
  have hX4 : w4.heap[X]? = _ := blk_grown (w := (wr.alloc _).drew) (blk_alloc hX _) hgr hneX
  have hP4 : w4.heap[P]? = _ := blk_grown (w := (wr.alloc _).drew) (blk_alloc hP _) hgr hneP
  have hO4 : w4.ownsRow b2 3 1 sl (kidsOff x 0).length ((kidsOff x 0).map fun i : Nat => .int .i64 i) := by
    refine own_keep hO fun g y _ hg he => blk_grown (w := (wr.alloc _).drew) (blk_alloc hg _) hgr ?_
    rcases own_two hown hO (by decide) with h | h
    · rw [he]; exact h.symm
    · rw [h]; simp
  refine ⟨k + 1, b2, .slice (some ⟨gg, 0, none⟩) (k + 1) cap4, C, N, T, hC, hN, hT, by simp, by omega, blk_ne hR4 (by simpa using Ne.symm hPR) _, blk_ne hX4 (by simpa using hPX) _, ?_, ?_, ?_, ?_⟩
  · rw [blk_set hP4 3]; rfl
  · refine own_ne_set hO4 ?_ _
    have := own_ne hO4 hP4 (by decide)
    simpa using this
  · have h5 := own_ne_set hown4 (p := ⟨P, 3, none⟩) (own_ne hown4 hP4 (by decide)) (.slice (some ⟨gg, 0, none⟩) (k + 1) cap4)
    have e : x.kids.take (k + 1) = x.kids.take k ++ [el] := by
      rw [List.take_add_one, hkk]; rfl
    rw [e, List.map_append]
    exact h5
  · refine Below.setCell ?_ (by simp; omega) _
    have hb : Below w.heap.size w ((wr.alloc (.cells #[.string (bs el)] 22)).drew) := by (repeat' (first | with_reducible exact Below.refl _ _ | with_reducible assumption | with_reducible refine below_alloc ?_ ?_ _ | with_reducible refine Below.setCell ?_ ?_ _ | with_reducible refine Below.drew ?_ | with_reducible refine below_drewN ?_ _ | with_reducible refine below_step (by assumption) ?_ ?_ | (with_reducible refine Below.trans ?_ (Below.mono (by assumption) ?_)) | exact Nat.le_refl _ | (simp; done) | (simp; omega) | omega))
    refine hb.grown hgr hb.size (fun g hg => ?_)
    rcases hown.2 with ⟨rfl, _⟩ | ⟨g', cap, cur, rfl, h, _⟩
    · simp [Value.ownBlock] at hg
    · simp [Value.ownBlock] at hg; omega

set_option maxRecDepth 100000 in
set_option maxHeartbeats 2000000 in
theorem refOpen (l : List UInt8) (hl : l.length ≤ 9000000000000000000) (w : World) :
    Calls Tryd.prog 114 #[.string (bs l)] w (OpenPost w (rt l)) := by
  cases hrt : rt l with
  | none =>
    have HR : Hid (right l = false) := by show right l = false; simp [right, hrt]
    clear hrt
    go_enter Tryd.func114, Tryd.ntmps114
    go_wp2_with (go_at_call 56; refine (refRight l hl _).mono ?_; rintro e w1 ⟨rfl, hb1⟩; rw [HR.out]; obtain ⟨hcw, hfw⟩ := bcell hb1; have hz := hb1.size; simp at hz)
    exact bodyPost_ret (v := .tuple #[.agg #[.int .u8 0, .int .i64 0, .string (bs []), .slice none 0 0], .bool false]) (by simp [results, Tryd.results114, go_sem, hcw, hz]) rfl ⟨rfl, by (repeat' (first | with_reducible exact Below.refl _ _ | with_reducible assumption | with_reducible refine below_alloc ?_ ?_ _ | with_reducible refine Below.setCell ?_ ?_ _ | with_reducible refine Below.drew ?_ | with_reducible refine below_drewN ?_ _ | with_reducible refine below_step (by assumption) ?_ ?_ | (with_reducible refine Below.trans ?_ (Below.mono (by assumption) ?_)) | exact Nat.le_refl _ | (simp; done) | (simp; omega) | omega))⟩
  | some x =>
    have HR : Hid (right l = true) := by show right l = true; simp [right, hrt]
    have hx := right_len HR.out
    have hrd : rd 64 l = some x ∧ x.len = l.length := by
      unfold rt at hrt
      rw [if_pos hx.2] at hrt
      split at hrt
      · rename_i y hy
        split at hrt
        · simp at hrt; subst hrt; exact ⟨hy, by assumption⟩
        · simp at hrt
      · simp at hrt
    obtain ⟨hrd, hxl⟩ := hrd
    obtain ⟨_, _, _, _, hop⟩ := rd_ok _ _ _ hrd
    have HRD := Lib.hid hrd
    have HXL := Lib.hid hxl
    clear hrt hrd hxl
    obtain ⟨c, r, rfl⟩ : ∃ c r, l = c :: r := by
      cases l with
      | nil => simp at hx
      | cons c r => exact ⟨c, r, rfl⟩
    have hop' : x.op = c := by rw [hop]; rfl
    have HOP := Lib.hid hop'
    clear hop hop'
    have hn63 : x.op.toNat = 110 → x.n ≤ 9223372036854775807 := fun h => ((rd_parts HRD.out).1 h).2.2
    have HO : Hid (∀ k, k + 1 < (kidsOff x 0).length → k < x.kids.length ∧ ∃ a e : Nat, (kidsOff x 0)[k]? = some a ∧ (kidsOff x 0)[k + 1]? = some e ∧ a ≤ e ∧ e ≤ (c :: r).length ∧ x.kids[k]? = some (((c :: r).drop a).take (e - a))) := open_offs HRD.out
    have H32 : Hid (x.kids.length ≤ 32) := kids32 HRD.out
    obtain ⟨t0, ht0, ht1, ht2, ht3⟩ := info_parts Tryd.infoTerm
    have hr0 : (0 : Int) ≤ (r.length : Int) + 1 := by omega
    by_cases h110 : c.toNat = 110
    · have hx110 : x.op.toNat = 110 := by rw [HOP.out]; exact h110
      have HT : Hid (([] : List UInt8) = x.text) := ((rd_parts HRD.out).1 hx110).1.symm
      have HN : Hid ((x.n : Int) = numOf x) := by show (x.n : Int) = _; simp [numOf, hx110]
      have HC : Hid ((110 : Int) = x.op.toNat) := by show (110 : Int) = _; rw [HOP.out, h110]; rfl
      have h63 := hn63 hx110
      clear hn63 hx110
      go_enter Tryd.func114, Tryd.ntmps114
      go_wp2_with (first | (go_at_call 56; refine (refRight (c :: r) hl _).mono ?_; rintro e w1 ⟨rfl, hb1⟩; rw [HR.out]; have Hz0 := Lib.hid (blk_below (blk_new w (.cells #[.int .u8 0, .int .i64 0, .string (bs []), .slice none 0 0] 80)) hb1 (by simp))) | (go_at_call 87; refine (refReadAll (c :: r) hl 64 (by omega) _ _ _ (by omega) (by simp; omega) rfl).mono ?_; rintro e w2 hp; rw [show (0 : Int).toNat = 0 from rfl, List.drop_zero, HRD.out] at hp; obtain ⟨xa, xn, xc, rfl, hown, hb2⟩ := hp))
      clear h110 h63
      obtain rfl := own_len hown
      have hsw2 : w.heap.size < w2.heap.size := Nat.lt_of_lt_of_le (blk_lt Hz0.out) hb2.size
      go_loopw [6] (fun iv wr => OLoop x w w2.heap.size (w2.heap.size + 1) (.int .i64 x.len) (.int .i64 x.deep) (.int .u64 x.n) (.int .i64 (frm x 0)) (.slice xa (kidsOff x 0).length xc) iv wr) (fun iv _ => x.kids.length + 1 - (intOf iv).toNat)
      case atStart => exact oloop_start HC.out HN.out HT.out Hz0.out (by (repeat' (first | with_reducible exact Below.refl _ _ | with_reducible assumption | with_reducible refine below_alloc ?_ ?_ _ | with_reducible refine Below.setCell ?_ ?_ _ | with_reducible refine Below.drew ?_ | with_reducible refine below_drewN ?_ _ | with_reducible refine below_step (by assumption) ?_ ?_ | (with_reducible refine Below.trans ?_ (Below.mono (by assumption) ?_)) | exact Nat.le_refl _ | (simp; done) | (simp; omega) | omega))) hb2 hown
      case round =>
        obtain ⟨k, b2, kv, C, N, T, hC, hN, hT, rfl, hk, hR, hX, hP, hO, hown2, hbel⟩ := hrel
        have HCC := Lib.hid hC
        have HNN := Lib.hid hN
        have HTT := Lib.hid hT
        clear hC hN hT
        obtain ⟨ad, kn, kc, hkv⟩ := own_slice hown2
        subst hkv
        have f0 := blk_free hR
        have f1 := blk_cell hR
        have f2 := blk_free hX
        have f3 := blk_cell hX
        have f4 := blk_free hP
        have f5 := blk_cell hP
        have hltX := blk_lt hX
        have hltP := blk_lt hP
        have HRR := Lib.hid hR
        have HX := Lib.hid hX
        have HP := Lib.hid hP
        clear hR hX hP
        by_cases hlt : k + 1 < (kidsOff x 0).length
        · obtain ⟨hkl, a, e, ha, he, hae, hel, hkk⟩ := HO.out k hlt
          obtain ⟨g, cap, hv, hgb, hgw, hcap, hcap2, hcell⟩ := own_cells hO (by omega)
          injection hv with hv1 hv2 hv3
          subst hv1 hv3
          have c1 := hcell k (.int .i64 a) (by simp [List.getElem?_map, ha])
          have c2 := hcell (k + 1) (.int .i64 e) (by simp [List.getElem?_map, he])
          clear hcell ha he
          have HKK := Lib.hid hkk
          clear hkk hv2
          have i1 : (a : Int) ≤ e := by omega
          have i2 : (e : Int) ≤ (r.length : Int) + 1 := by simp at hel; omega
          have i3 : (k : Int) < (kidsOff x 0).length := by omega
          have i4 : (k : Int) + 1 < (kidsOff x 0).length := by omega
          have hneP : some (w2.heap.size + 1) ≠ (Value.slice ad kn kc).ownBlock := own_ne hown2 HP.out (by decide)
          have hk32 := H32.out
          have hsw := hbel.size
          have hw0 : IntKind.i64.wrap (k : Int) = k := IntWalk.i64_in _ (by omega)
          have hw1 : ((k : Int) + 1).toNat = k + 1 := by omega
          have hw2 : (0 : Int) ≤ (k : Int) + 1 := by omega
          obtain ⟨gg, cap4, w4, hrun, hown4, hgr4, hat, hlt4⟩ := run_append_lies (P := Tryd.prog) (w := (wr.alloc (.cells #[.string (bs (((c :: r).drop a).take (e - a)))] 22)).drew) 47 47 w.heap.size 22 t0 _ 1 16 Tryd.underlying47 ht0 ht1 ht2 ht3 rfl (by omega) (.slice ad kn kc) k _ ((hown2.alloc _).drew) ⟨wr.heap.size, 0, none⟩ 1 1 [.string (bs (((c :: r).drop a).take (e - a)))] rfl (World.news_of_block (cs := #[.string (bs (((c :: r).drop a).take (e - a)))]) (t := 22) (fr := (0, 0)) (heap_alloc_new wr _)) (by simp [Value.oneCell']) (by omega) (by unfold maxLen; omega) (by omega) (by simp; omega) (wr.heap.size + 1) (by simp)
          have Hq := Lib.hid (blk_grown (w := (wr.alloc _).drew) (blk_alloc HP.out _) hgr4 hneP)
          have f6 := blk_free Hq.out
          have f7 := blk_cell Hq.out
          simp [go_sem] at hrun
          go_wp2_with fail
          go_region
          go_wp2
          go_roundw
          case rel => exact oloop_next HCC.out HNN.out HTT.out hkl HKK.out HRR.out HX.out HP.out (by omega) hO hown2 hbel hown4 hgr4
          case measure => (show x.kids.length + 1 - ((k : Int) + 1 + 1).toNat < x.kids.length + 1 - ((k : Int) + 1).toNat); omega
        · have Hend := Lib.hid (open_end HRD.out k hk hlt)
          go_wp2
          refine bodyPost_ret (v := .tuple #[.agg #[.int .u8 C, .int .i64 N, .string (bs T), .slice ad kn kc], .bool true]) (by simp [results, Tryd.results114, go_sem, f0, f1, f4, f5]) rfl ?_
          have hneR : some w.heap.size ≠ (Value.slice ad kn kc).ownBlock := own_ne hown2 HRR.out (by decide)
          refine ⟨ad, kn, kc, by rw [HCC.out, HNN.out, HTT.out], ?_, by (repeat' (first | with_reducible exact Below.refl _ _ | with_reducible assumption | with_reducible refine below_alloc ?_ ?_ _ | with_reducible refine Below.setCell ?_ ?_ _ | with_reducible refine Below.drew ?_ | with_reducible refine below_drewN ?_ _ | with_reducible refine below_step (by assumption) ?_ ?_ | (with_reducible refine Below.trans ?_ (Below.mono (by assumption) ?_)) | exact Nat.le_refl _ | (simp; done) | (simp; omega) | omega))⟩
          have h5 := own_ne_set (own_ne_set (own_ne_set (own_ne_set hown2 (p := ⟨w.heap.size, 0, none⟩) hneR (.int .u8 C)) (p := ⟨w.heap.size, 1, none⟩) hneR (.int .i64 N)) (p := ⟨w.heap.size, 2, none⟩) hneR (.string (bs T))) (p := ⟨w.heap.size, 3, none⟩) hneR (.slice ad kn kc)
          rw [Hend.out, List.take_length] at h5
          exact h5
    · clear hn63
      by_cases h116 : c.toNat = 116
      · have hx116 : x.op.toNat = 116 := by rw [HOP.out]; exact h116
        obtain ⟨_, hq2, hq3⟩ := (rd_parts HRD.out).2.1 hx116
        have hfr : frm x 0 = x.len - x.n := by simp [frm, hx116]
        have HT : Hid (((c :: r).drop (frm x 0)).take (x.len - frm x 0) = x.text) := by
          show ((c :: r).drop (frm x 0)).take (x.len - frm x 0) = x.text
          rw [hq3, hfr]; congr 1; omega
        have HN : Hid ((0 : Int) = numOf x) := by show (0 : Int) = _; simp [numOf, hx116]
        have HC : Hid ((116 : Int) = x.op.toNat) := by show (116 : Int) = _; rw [HOP.out, h116]; rfl
        have j1 : (frm x 0 : Int) ≤ x.len := by omega
        have j2 : (x.len : Int) ≤ (r.length : Int) + 1 := by have := HXL.out; simp at this; omega
        clear hx116 hq2 hq3 hfr
        go_enter Tryd.func114, Tryd.ntmps114
        go_wp2_with (first | (go_at_call 56; refine (refRight (c :: r) hl _).mono ?_; rintro e w1 ⟨rfl, hb1⟩; rw [HR.out]; have Hz0 := Lib.hid (blk_below (blk_new w (.cells #[.int .u8 0, .int .i64 0, .string (bs []), .slice none 0 0] 80)) hb1 (by simp))) | (go_at_call 87; refine (refReadAll (c :: r) hl 64 (by omega) _ _ _ (by omega) (by simp; omega) rfl).mono ?_; rintro e w2 hp; rw [show (0 : Int).toNat = 0 from rfl, List.drop_zero, HRD.out] at hp; obtain ⟨xa, xn, xc, rfl, hown, hb2⟩ := hp))
        clear h116 j1 j2
        obtain rfl := own_len hown
        have hsw2 : w.heap.size < w2.heap.size := Nat.lt_of_lt_of_le (blk_lt Hz0.out) hb2.size
        go_loopw [6] (fun iv wr => OLoop x w w2.heap.size (w2.heap.size + 1) (.int .i64 x.len) (.int .i64 x.deep) (.int .u64 x.n) (.int .i64 (frm x 0)) (.slice xa (kidsOff x 0).length xc) iv wr) (fun iv _ => x.kids.length + 1 - (intOf iv).toNat)
        case atStart => exact oloop_start HC.out HN.out HT.out Hz0.out (by (repeat' (first | with_reducible exact Below.refl _ _ | with_reducible assumption | with_reducible refine below_alloc ?_ ?_ _ | with_reducible refine Below.setCell ?_ ?_ _ | with_reducible refine Below.drew ?_ | with_reducible refine below_drewN ?_ _ | with_reducible refine below_step (by assumption) ?_ ?_ | (with_reducible refine Below.trans ?_ (Below.mono (by assumption) ?_)) | exact Nat.le_refl _ | (simp; done) | (simp; omega) | omega))) hb2 hown
        case round =>
          obtain ⟨k, b2, kv, C, N, T, hC, hN, hT, rfl, hk, hR, hX, hP, hO, hown2, hbel⟩ := hrel
          have HCC := Lib.hid hC
          have HNN := Lib.hid hN
          have HTT := Lib.hid hT
          clear hC hN hT
          obtain ⟨ad, kn, kc, hkv⟩ := own_slice hown2
          subst hkv
          have f0 := blk_free hR
          have f1 := blk_cell hR
          have f2 := blk_free hX
          have f3 := blk_cell hX
          have f4 := blk_free hP
          have f5 := blk_cell hP
          have hltX := blk_lt hX
          have hltP := blk_lt hP
          have HRR := Lib.hid hR
          have HX := Lib.hid hX
          have HP := Lib.hid hP
          clear hR hX hP
          by_cases hlt : k + 1 < (kidsOff x 0).length
          · obtain ⟨hkl, a, e, ha, he, hae, hel, hkk⟩ := HO.out k hlt
            obtain ⟨g, cap, hv, hgb, hgw, hcap, hcap2, hcell⟩ := own_cells hO (by omega)
            injection hv with hv1 hv2 hv3
            subst hv1 hv3
            have c1 := hcell k (.int .i64 a) (by simp [List.getElem?_map, ha])
            have c2 := hcell (k + 1) (.int .i64 e) (by simp [List.getElem?_map, he])
            clear hcell ha he
            have HKK := Lib.hid hkk
            clear hkk hv2
            have i1 : (a : Int) ≤ e := by omega
            have i2 : (e : Int) ≤ (r.length : Int) + 1 := by simp at hel; omega
            have i3 : (k : Int) < (kidsOff x 0).length := by omega
            have i4 : (k : Int) + 1 < (kidsOff x 0).length := by omega
            have hneP : some (w2.heap.size + 1) ≠ (Value.slice ad kn kc).ownBlock := own_ne hown2 HP.out (by decide)
            have hk32 := H32.out
            have hsw := hbel.size
            have hw0 : IntKind.i64.wrap (k : Int) = k := IntWalk.i64_in _ (by omega)
            have hw1 : ((k : Int) + 1).toNat = k + 1 := by omega
            have hw2 : (0 : Int) ≤ (k : Int) + 1 := by omega
            obtain ⟨gg, cap4, w4, hrun, hown4, hgr4, hat, hlt4⟩ := run_append_lies (P := Tryd.prog) (w := (wr.alloc (.cells #[.string (bs (((c :: r).drop a).take (e - a)))] 22)).drew) 47 47 w.heap.size 22 t0 _ 1 16 Tryd.underlying47 ht0 ht1 ht2 ht3 rfl (by omega) (.slice ad kn kc) k _ ((hown2.alloc _).drew) ⟨wr.heap.size, 0, none⟩ 1 1 [.string (bs (((c :: r).drop a).take (e - a)))] rfl (World.news_of_block (cs := #[.string (bs (((c :: r).drop a).take (e - a)))]) (t := 22) (fr := (0, 0)) (heap_alloc_new wr _)) (by simp [Value.oneCell']) (by omega) (by unfold maxLen; omega) (by omega) (by simp; omega) (wr.heap.size + 1) (by simp)
            have Hq := Lib.hid (blk_grown (w := (wr.alloc _).drew) (blk_alloc HP.out _) hgr4 hneP)
            have f6 := blk_free Hq.out
            have f7 := blk_cell Hq.out
            simp [go_sem] at hrun
            go_wp2_with fail
            go_region
            go_wp2
            go_roundw
            case rel => exact oloop_next HCC.out HNN.out HTT.out hkl HKK.out HRR.out HX.out HP.out (by omega) hO hown2 hbel hown4 hgr4
            case measure => (show x.kids.length + 1 - ((k : Int) + 1 + 1).toNat < x.kids.length + 1 - ((k : Int) + 1).toNat); omega
          · have Hend := Lib.hid (open_end HRD.out k hk hlt)
            go_wp2
            refine bodyPost_ret (v := .tuple #[.agg #[.int .u8 C, .int .i64 N, .string (bs T), .slice ad kn kc], .bool true]) (by simp [results, Tryd.results114, go_sem, f0, f1, f4, f5]) rfl ?_
            have hneR : some w.heap.size ≠ (Value.slice ad kn kc).ownBlock := own_ne hown2 HRR.out (by decide)
            refine ⟨ad, kn, kc, by rw [HCC.out, HNN.out, HTT.out], ?_, by (repeat' (first | with_reducible exact Below.refl _ _ | with_reducible assumption | with_reducible refine below_alloc ?_ ?_ _ | with_reducible refine Below.setCell ?_ ?_ _ | with_reducible refine Below.drew ?_ | with_reducible refine below_drewN ?_ _ | with_reducible refine below_step (by assumption) ?_ ?_ | (with_reducible refine Below.trans ?_ (Below.mono (by assumption) ?_)) | exact Nat.le_refl _ | (simp; done) | (simp; omega) | omega))⟩
            have h5 := own_ne_set (own_ne_set (own_ne_set (own_ne_set hown2 (p := ⟨w.heap.size, 0, none⟩) hneR (.int .u8 C)) (p := ⟨w.heap.size, 1, none⟩) hneR (.int .i64 N)) (p := ⟨w.heap.size, 2, none⟩) hneR (.string (bs T))) (p := ⟨w.heap.size, 3, none⟩) hneR (.slice ad kn kc)
            rw [Hend.out, List.take_length] at h5
            exact h5
      · have hx110 : x.op.toNat ≠ 110 := by rw [HOP.out]; exact h110
        have hx116 : x.op.toNat ≠ 116 := by rw [HOP.out]; exact h116
        have HT : Hid (([] : List UInt8) = x.text) := ((rd_parts HRD.out).2.2 hx110 hx116).1.symm
        have HN : Hid ((0 : Int) = numOf x) := by show (0 : Int) = _; simp [numOf, hx110]
        have HC : Hid ((c.toNat : Int) = x.op.toNat) := by show (c.toNat : Int) = _; rw [HOP.out]
        clear hx110 hx116
        go_enter Tryd.func114, Tryd.ntmps114
        go_wp2_with (first | (go_at_call 56; refine (refRight (c :: r) hl _).mono ?_; rintro e w1 ⟨rfl, hb1⟩; rw [HR.out]; have Hz0 := Lib.hid (blk_below (blk_new w (.cells #[.int .u8 0, .int .i64 0, .string (bs []), .slice none 0 0] 80)) hb1 (by simp))) | (go_at_call 87; refine (refReadAll (c :: r) hl 64 (by omega) _ _ _ (by omega) (by simp; omega) rfl).mono ?_; rintro e w2 hp; rw [show (0 : Int).toNat = 0 from rfl, List.drop_zero, HRD.out] at hp; obtain ⟨xa, xn, xc, rfl, hown, hb2⟩ := hp))
        clear h110 h116
        obtain rfl := own_len hown
        have hsw2 : w.heap.size < w2.heap.size := Nat.lt_of_lt_of_le (blk_lt Hz0.out) hb2.size
        go_loopw [6] (fun iv wr => OLoop x w w2.heap.size (w2.heap.size + 1) (.int .i64 x.len) (.int .i64 x.deep) (.int .u64 x.n) (.int .i64 (frm x 0)) (.slice xa (kidsOff x 0).length xc) iv wr) (fun iv _ => x.kids.length + 1 - (intOf iv).toNat)
        case atStart => exact oloop_start HC.out HN.out HT.out Hz0.out (by (repeat' (first | with_reducible exact Below.refl _ _ | with_reducible assumption | with_reducible refine below_alloc ?_ ?_ _ | with_reducible refine Below.setCell ?_ ?_ _ | with_reducible refine Below.drew ?_ | with_reducible refine below_drewN ?_ _ | with_reducible refine below_step (by assumption) ?_ ?_ | (with_reducible refine Below.trans ?_ (Below.mono (by assumption) ?_)) | exact Nat.le_refl _ | (simp; done) | (simp; omega) | omega))) hb2 hown
        case round =>
          obtain ⟨k, b2, kv, C, N, T, hC, hN, hT, rfl, hk, hR, hX, hP, hO, hown2, hbel⟩ := hrel
          have HCC := Lib.hid hC
          have HNN := Lib.hid hN
          have HTT := Lib.hid hT
          clear hC hN hT
          obtain ⟨ad, kn, kc, hkv⟩ := own_slice hown2
          subst hkv
          have f0 := blk_free hR
          have f1 := blk_cell hR
          have f2 := blk_free hX
          have f3 := blk_cell hX
          have f4 := blk_free hP
          have f5 := blk_cell hP
          have hltX := blk_lt hX
          have hltP := blk_lt hP
          have HRR := Lib.hid hR
          have HX := Lib.hid hX
          have HP := Lib.hid hP
          clear hR hX hP
          by_cases hlt : k + 1 < (kidsOff x 0).length
          · obtain ⟨hkl, a, e, ha, he, hae, hel, hkk⟩ := HO.out k hlt
            obtain ⟨g, cap, hv, hgb, hgw, hcap, hcap2, hcell⟩ := own_cells hO (by omega)
            injection hv with hv1 hv2 hv3
            subst hv1 hv3
            have c1 := hcell k (.int .i64 a) (by simp [List.getElem?_map, ha])
            have c2 := hcell (k + 1) (.int .i64 e) (by simp [List.getElem?_map, he])
            clear hcell ha he
            have HKK := Lib.hid hkk
            clear hkk hv2
            have i1 : (a : Int) ≤ e := by omega
            have i2 : (e : Int) ≤ (r.length : Int) + 1 := by simp at hel; omega
            have i3 : (k : Int) < (kidsOff x 0).length := by omega
            have i4 : (k : Int) + 1 < (kidsOff x 0).length := by omega
            have hneP : some (w2.heap.size + 1) ≠ (Value.slice ad kn kc).ownBlock := own_ne hown2 HP.out (by decide)
            have hk32 := H32.out
            have hsw := hbel.size
            have hw0 : IntKind.i64.wrap (k : Int) = k := IntWalk.i64_in _ (by omega)
            have hw1 : ((k : Int) + 1).toNat = k + 1 := by omega
            have hw2 : (0 : Int) ≤ (k : Int) + 1 := by omega
            obtain ⟨gg, cap4, w4, hrun, hown4, hgr4, hat, hlt4⟩ := run_append_lies (P := Tryd.prog) (w := (wr.alloc (.cells #[.string (bs (((c :: r).drop a).take (e - a)))] 22)).drew) 47 47 w.heap.size 22 t0 _ 1 16 Tryd.underlying47 ht0 ht1 ht2 ht3 rfl (by omega) (.slice ad kn kc) k _ ((hown2.alloc _).drew) ⟨wr.heap.size, 0, none⟩ 1 1 [.string (bs (((c :: r).drop a).take (e - a)))] rfl (World.news_of_block (cs := #[.string (bs (((c :: r).drop a).take (e - a)))]) (t := 22) (fr := (0, 0)) (heap_alloc_new wr _)) (by simp [Value.oneCell']) (by omega) (by unfold maxLen; omega) (by omega) (by simp; omega) (wr.heap.size + 1) (by simp)
            have Hq := Lib.hid (blk_grown (w := (wr.alloc _).drew) (blk_alloc HP.out _) hgr4 hneP)
            have f6 := blk_free Hq.out
            have f7 := blk_cell Hq.out
            simp [go_sem] at hrun
            go_wp2_with fail
            go_region
            go_wp2
            go_roundw
            case rel => exact oloop_next HCC.out HNN.out HTT.out hkl HKK.out HRR.out HX.out HP.out (by omega) hO hown2 hbel hown4 hgr4
            case measure => (show x.kids.length + 1 - ((k : Int) + 1 + 1).toNat < x.kids.length + 1 - ((k : Int) + 1).toNat); omega
          · have Hend := Lib.hid (open_end HRD.out k hk hlt)
            go_wp2
            refine bodyPost_ret (v := .tuple #[.agg #[.int .u8 C, .int .i64 N, .string (bs T), .slice ad kn kc], .bool true]) (by simp [results, Tryd.results114, go_sem, f0, f1, f4, f5]) rfl ?_
            have hneR : some w.heap.size ≠ (Value.slice ad kn kc).ownBlock := own_ne hown2 HRR.out (by decide)
            refine ⟨ad, kn, kc, by rw [HCC.out, HNN.out, HTT.out], ?_, by (repeat' (first | with_reducible exact Below.refl _ _ | with_reducible assumption | with_reducible refine below_alloc ?_ ?_ _ | with_reducible refine Below.setCell ?_ ?_ _ | with_reducible refine Below.drew ?_ | with_reducible refine below_drewN ?_ _ | with_reducible refine below_step (by assumption) ?_ ?_ | (with_reducible refine Below.trans ?_ (Below.mono (by assumption) ?_)) | exact Nat.le_refl _ | (simp; done) | (simp; omega) | omega))⟩
            have h5 := own_ne_set (own_ne_set (own_ne_set (own_ne_set hown2 (p := ⟨w.heap.size, 0, none⟩) hneR (.int .u8 C)) (p := ⟨w.heap.size, 1, none⟩) hneR (.int .i64 N)) (p := ⟨w.heap.size, 2, none⟩) hneR (.string (bs T))) (p := ⟨w.heap.size, 3, none⟩) hneR (.slice ad kn kc)
            rw [Hend.out, List.take_length] at h5
            exact h5
end Go.Proofs.YtchbhainmalbbaaDoor
