/- The program's locks: made; two the same; how great; a great witness. -/
import Derived.Test.YtfmckibiblhakaaGreatDoorLockX
set_option linter.unusedSimpArgs false
set_option linter.unusedVariables false
namespace Go.Proofs.YtfmckibiblhakaaGreatDoor
open Go.RowKit

set_option maxRecDepth 100000 in
set_option maxHeartbeats 1000000 in
theorem lkSig (t : List UInt8) (w : World) : Calls Tryz.prog 33 #[.string (bs t)] w fun e w' => e = .returned (.agg #[.int .u8 1, .string (bs t), .int .i64 0, .slice none 0 0]) ∧ Below w.heap.size w w' := by
  go_enter Tryz.func33, Tryz.ntmps33
  go_wp2
  refine bodyPost_ret (v := .agg #[.int .u8 1, .string (bs t), .int .i64 0, .slice none 0 0]) (by simp [results, Tryz.results33, go_sem]) rfl ⟨rfl, ?_⟩
  (repeat' (first | with_reducible exact Below.refl _ _ | with_reducible assumption | with_reducible refine below_alloc ?_ ?_ _ | with_reducible refine Below.setCell ?_ ?_ _ | with_reducible refine Below.drew ?_ | with_reducible refine below_drewN ?_ _ | with_reducible refine below_step (by assumption) ?_ ?_ | (with_reducible refine Below.trans ?_ (Below.mono (by assumption) ?_)) | exact Nat.le_refl _ | (simp; done) | (simp; omega) | omega))
theorem inSig (t : List UInt8) (ht : t.length ≤ 9000000000000000000) (q : Nat → Prop) (w : World) : LockIn q w (.mk 1 t 0 []) (.agg #[.int .u8 1, .string (bs t), .int .i64 0, .slice none 0 0]) := by
  unfold LockIn
  exact ⟨by omega, by omega, ht, by simp, _, rfl, .inl ⟨none, 0, rfl, rfl⟩⟩

set_option maxRecDepth 100000 in
set_option maxHeartbeats 1000000 in
theorem lkPre (t : List UInt8) (w : World) : Calls Tryz.prog 35 #[.string (bs t)] w fun e w' => e = .returned (.agg #[.int .u8 2, .string (bs t), .int .i64 0, .slice none 0 0]) ∧ Below w.heap.size w w' := by
  go_enter Tryz.func35, Tryz.ntmps35
  go_wp2
  refine bodyPost_ret (v := .agg #[.int .u8 2, .string (bs t), .int .i64 0, .slice none 0 0]) (by simp [results, Tryz.results35, go_sem]) rfl ⟨rfl, ?_⟩
  (repeat' (first | with_reducible exact Below.refl _ _ | with_reducible assumption | with_reducible refine below_alloc ?_ ?_ _ | with_reducible refine Below.setCell ?_ ?_ _ | with_reducible refine Below.drew ?_ | with_reducible refine below_drewN ?_ _ | with_reducible refine below_step (by assumption) ?_ ?_ | (with_reducible refine Below.trans ?_ (Below.mono (by assumption) ?_)) | exact Nat.le_refl _ | (simp; done) | (simp; omega) | omega))
theorem inPre (t : List UInt8) (ht : t.length ≤ 9000000000000000000) (q : Nat → Prop) (w : World) : LockIn q w (.mk 2 t 0 []) (.agg #[.int .u8 2, .string (bs t), .int .i64 0, .slice none 0 0]) := by
  unfold LockIn
  exact ⟨by omega, by omega, ht, by simp, _, rfl, .inl ⟨none, 0, rfl, rfl⟩⟩

set_option maxRecDepth 100000 in
set_option maxHeartbeats 1000000 in
theorem lkAfter (n : Int) (w : World) : Calls Tryz.prog 37 #[.int .i64 n] w fun e w' => e = .returned (.agg #[.int .u8 3, .string (bs []), .int .i64 n, .slice none 0 0]) ∧ Below w.heap.size w w' := by
  go_enter Tryz.func37, Tryz.ntmps37
  go_wp2
  refine bodyPost_ret (v := .agg #[.int .u8 3, .string (bs []), .int .i64 n, .slice none 0 0]) (by simp [results, Tryz.results37, go_sem]) rfl ⟨rfl, ?_⟩
  (repeat' (first | with_reducible exact Below.refl _ _ | with_reducible assumption | with_reducible refine below_alloc ?_ ?_ _ | with_reducible refine Below.setCell ?_ ?_ _ | with_reducible refine Below.drew ?_ | with_reducible refine below_drewN ?_ _ | with_reducible refine below_step (by assumption) ?_ ?_ | (with_reducible refine Below.trans ?_ (Below.mono (by assumption) ?_)) | exact Nat.le_refl _ | (simp; done) | (simp; omega) | omega))
theorem inAfter (n : Int) (h0 : -9223372036854775808 ≤ n) (h1 : n ≤ 9223372036854775807) (q : Nat → Prop) (w : World) : LockIn q w (.mk 3 [] n []) (.agg #[.int .u8 3, .string (bs []), .int .i64 n, .slice none 0 0]) := by
  unfold LockIn
  exact ⟨by omega, by omega, by simp, by simp, _, rfl, .inl ⟨none, 0, rfl, rfl⟩⟩

set_option maxRecDepth 100000 in
set_option maxHeartbeats 1000000 in
theorem lkOlder (n : Int) (w : World) : Calls Tryz.prog 39 #[.int .i64 n] w fun e w' => e = .returned (.agg #[.int .u8 4, .string (bs []), .int .i64 n, .slice none 0 0]) ∧ Below w.heap.size w w' := by
  go_enter Tryz.func39, Tryz.ntmps39
  go_wp2
  refine bodyPost_ret (v := .agg #[.int .u8 4, .string (bs []), .int .i64 n, .slice none 0 0]) (by simp [results, Tryz.results39, go_sem]) rfl ⟨rfl, ?_⟩
  (repeat' (first | with_reducible exact Below.refl _ _ | with_reducible assumption | with_reducible refine below_alloc ?_ ?_ _ | with_reducible refine Below.setCell ?_ ?_ _ | with_reducible refine Below.drew ?_ | with_reducible refine below_drewN ?_ _ | with_reducible refine below_step (by assumption) ?_ ?_ | (with_reducible refine Below.trans ?_ (Below.mono (by assumption) ?_)) | exact Nat.le_refl _ | (simp; done) | (simp; omega) | omega))
theorem inOlder (n : Int) (h0 : -9223372036854775808 ≤ n) (h1 : n ≤ 9223372036854775807) (q : Nat → Prop) (w : World) : LockIn q w (.mk 4 [] n []) (.agg #[.int .u8 4, .string (bs []), .int .i64 n, .slice none 0 0]) := by
  unfold LockIn
  exact ⟨by omega, by omega, by simp, by simp, _, rfl, .inl ⟨none, 0, rfl, rfl⟩⟩

theorem Tryz.infoLock : (Tryz.prog.info? 25).map (fun i => (i.zero, i.size, i.bytes)) = some (some (.agg #[.int .u8 0, .string ByteArray.empty, .int .i64 0, .slice none 0 0]), 4, 56) := by kernel_rfl
theorem rowV_one {p : Nat → Prop} {w : World} : ∀ (l : List LT) (cs : List Value), RowV p w l cs → ∀ u ∈ cs, u.oneCell' = true
  | [], cs, h, u, hu => by
    have : cs = [] := h
    subst this; simp at hu
  | x :: r, cs, h, u, hu => by
    obtain ⟨c0, c1, c2, c3, cs', rfl, h1, h2⟩ := h
    obtain ⟨k, n, t, ad, m, c, rfl, rfl, rfl, rfl⟩ := lockIn_cells h1
    simp only [List.mem_cons] at hu
    rcases hu with rfl | rfl | rfl | rfl | hu
    · rfl
    · rfl
    · rfl
    · rfl
    · exact rowV_one r cs' h2 u hu
theorem own_lcells {w : World} {base e n : Nat} {v : Value} {xs : List Value} (h : w.ownsRow base e 4 v n xs) (hn : 0 < n) :
    ∃ g cap, v = .slice (some ⟨g, 0, none⟩) n cap ∧ base ≤ g ∧ g < w.heap.size ∧ ∀ (j : Nat) (x : Value), xs[j]? = some x → w.cell? ⟨g, j, none⟩ = some x := by
  obtain ⟨h0, h⟩ := h
  rcases h with ⟨_, h⟩ | ⟨g, cap, cur, rfl, hb, hg, hc, hc2, hs, ht⟩
  · omega
  · refine ⟨g, cap, rfl, hb, blk_lt hg, fun j x hj => ?_⟩
    rw [blk_cell hg]
    rw [← ht] at hj
    have hlt := (List.getElem?_eq_some_iff.1 hj).1
    rw [List.getElem?_take_of_lt (by simp at hlt; omega)] at hj
    simpa using hj
theorem own_row {p : Nat → Prop} {w : World} {base e n : Nat} {v : Value} {xs : List Value} {l : List LT} (h : w.ownsRow base e 4 v n xs) (hn : 0 < n) (hl : l.length = n) (hr : RowV p w l xs) :
    ∃ g cap, v = .slice (some ⟨g, 0, none⟩) n cap ∧ base ≤ g ∧ g < w.heap.size ∧ RowIn p w l g 0 := by
  obtain ⟨g, cap, rfl, hb, hg, hc⟩ := own_lcells h hn
  exact ⟨g, cap, rfl, hb, hg, rowV_in l xs 0 hr (fun j v hj => by rw [Nat.zero_add]; exact hc j v hj)⟩
theorem stay_below {q : Nat → Prop} {w w' : World} (h : Below w.heap.size w w') : Stay q w w' := ⟨h.size, fun b hb _ => h.block b hb⟩

set_option maxRecDepth 100000 in
set_option maxHeartbeats 2000000 in
theorem lkClone (kids : List LT) (b o c : Nat) (q : Nat → Prop) (hm : 0 < kids.length) (hk : kids.length ≤ 1000) (w : World) (hb : b < w.heap.size) (hq : q b) (hr : RowIn q w kids b o) :
    Calls Tryz.prog 86 #[.slice (some ⟨b, o, none⟩) kids.length c] w fun e w' => Below w.heap.size w w' ∧ ∃ g cap, e = .returned (.slice (some ⟨g, 0, none⟩) kids.length cap) ∧ w.heap.size ≤ g ∧ g < w'.heap.size ∧ RowIn q w' kids g 0 := by
  obtain ⟨cs, hv, hcs⟩ := rowIn_v kids o hr
  have hlen := rowV_len kids cs hv
  have hone := rowV_one kids cs hv
  obtain ⟨i0, hi0, hi1, hi2, hi3⟩ := info_parts Tryz.infoLock
  have HV := Lib.hid hv
  have HC := Lib.hid hcs
  have HO := Lib.hid hone
  clear hr hv hcs hone
  have hsn : ∀ (b o n c : Nat) (w : World), (binOp .eql 23 (.slice (some ⟨b, o, none⟩) n c) (.slice none 0 0)).run Tryz.prog w = .ok (.bool false) w := fun _ _ _ _ _ => by kernel_rfl
  go_enter Tryz.func86, Tryz.ntmps86
  go_wp2_with (at_builtin; go_must (refine wpList_append_own _ rfl _ _ 23 rfl w.heap.size 25 i0 (.agg #[.int .u8 0, .string ByteArray.empty, .int .i64 0, .slice none 0 0]) 4 56 Tryz.underlying23 hi0 hi1 hi2 hi3 rfl (by decide) _ 0 [] rfl ?own ⟨b, o, none⟩ kids.length c cs rfl hlen ?c1 HO.out ?c3 ?c4 ?c5 ?_; (case own => (refine ⟨rfl, .inr ⟨w.heap.size, 0, #[], rfl, Nat.le_refl _, ?_, Nat.le_refl _, by decide, rfl, rfl⟩⟩; exact blk_new _ _)); (case c1 => (intro j u hj; rw [Addr.add_lit]; have := HC.out j u hj; exact kcell_alloc this _)); (case c3 => (unfold maxLen; omega)); (case c4 => omega); (case c5 => (simp)); (intro v' w4 hown4 hgr4 _); (obtain ⟨ad4, n4, cp4, hv4⟩ := own_slice hown4); (subst hv4)))
  go_wp2
  go_ret
  have hgl : GL [] w w4 := gl_grown hgr4 (gl_alloc (gl_refl _ _) _) (fun r hr => by
    have hr2 : (Value.slice (some ⟨w.heap.size, 0, none⟩) 0 0).ownBlock = some r := hr
    right; simp [Value.ownBlock] at hr2; omega)
  have hbl := gl_to_below hgl
  refine ⟨hbl, ?_⟩
  rw [List.nil_append, Nat.zero_add] at hown4
  obtain ⟨g, cap, e, h1, h2, h3⟩ := own_row hown4 hm rfl (rowV_stay (stay_below hbl) (fun _ _ h => h) kids cs HV.out)
  exact ⟨g, cap, by rw [← e]; rfl, h1, h2, h3⟩

set_option maxRecDepth 100000 in
set_option maxHeartbeats 2000000 in
theorem lkAll (kids : List LT) (b o c : Nat) (q : Nat → Prop) (hm : 0 < kids.length) (hk : kids.length ≤ 1000) (w : World) (hb : b < w.heap.size) (hq : q b) (hr : RowIn q w kids b o) :
    Calls Tryz.prog 31 #[.slice (some ⟨b, o, none⟩) kids.length c] w fun e w' => Below w.heap.size w w' ∧ ∃ v, e = .returned v ∧ LockIn (fun b => q b ∨ w.heap.size ≤ b) w' (.mk 5 [] 0 kids) v := by
  have hc := fun (W : World) (hgw : GL [] w W) => lkClone kids b o c (fun b => q b ∧ b < w.heap.size) hm hk W (Nat.lt_of_lt_of_le hb hgw.size) ⟨hq, hb⟩ (rowIn_gl hgw kids b o hb ⟨hq, hb⟩ (rowIn_mono (fun b hb h => ⟨h, hb⟩) kids b o hr))
  have HC := Lib.hid hc
  clear hc hr
  go_enter Tryz.func31, Tryz.ntmps31
  go_wp2_with fail
  refine (HC.out _ (by (repeat' (first | with_reducible exact gl_refl _ _ | with_reducible assumption | with_reducible refine gl_alloc ?_ _ | with_reducible refine gl_drewN ?_ _ | with_reducible refine gl_drew ?_ | (with_reducible refine gl_setn ?_ ?_ _; · (first | exact Nat.le_refl _ | (simp; done) | (simp; omega) | omega)) | (with_reducible refine gl_seti ?_ ?_ _; · (simp; done)) | with_reducible refine gl_below (by with_reducible assumption) ?_ | with_reducible refine gl_step (by with_reducible assumption) ?_ (by first | (simp; done) | (simp; omega)) | with_reducible refine gl_grown (by with_reducible assumption) ?_ (by first | (simp; done) | (simp; omega)))))).mono ?_
  rintro e w1 ⟨hb1, g, cap, rfl, h1, h2, h3⟩
  have g1 := blk_below (blk_new w (.cells #[.int .u8 0, .string (bs []), .int .i64 0, .slice none 0 0] 25)) hb1 (by simp)
  have f1 := blk_cell g1
  have e1 := blk_free g1
  have l1 := blk_lt g1
  clear g1
  have H3 := Lib.hid h3
  clear h3
  simp at h1
  go_wp2_with fail
  refine bodyPost_ret (v := .agg #[.int .u8 5, .string (bs []), .int .i64 0, .slice (some ⟨g, 0, none⟩) kids.length cap]) (by simp [results, Tryz.results31, go_sem, f1, e1]) rfl ⟨?_, _, rfl, ?_⟩
  · (repeat' (first | with_reducible exact Below.refl _ _ | with_reducible assumption | with_reducible refine below_alloc ?_ ?_ _ | with_reducible refine Below.setCell ?_ ?_ _ | with_reducible refine Below.drew ?_ | with_reducible refine below_drewN ?_ _ | with_reducible refine below_step (by assumption) ?_ ?_ | (with_reducible refine Below.trans ?_ (Below.mono (by assumption) ?_)) | exact Nat.le_refl _ | (simp; done) | (simp; omega) | omega))
  · unfold LockIn
    refine ⟨by omega, by omega, by simp, by omega, _, rfl, .inr ⟨g, 0, cap, rfl, by simp; omega, .inr (by omega), ?_⟩⟩
    refine rowIn_stay (p := fun b => b ≠ w.heap.size ∧ (q b ∨ w.heap.size ≤ b)) (w := w1) ⟨by simp, fun b hb hp => ?_⟩ (fun b _ h => h.2) kids g 0 h2 ⟨by omega, .inr (by omega)⟩ (rowIn_mono (fun b hb h => ⟨by omega, .inl h.1⟩) kids g 0 H3.out)
    repeat (rw [Below.heap_setCell _ _ _ _ (by simpa using hp.1)])

set_option maxRecDepth 100000 in
set_option maxHeartbeats 2000000 in
theorem lkAny (kids : List LT) (b o c : Nat) (q : Nat → Prop) (hm : 0 < kids.length) (hk : kids.length ≤ 1000) (w : World) (hb : b < w.heap.size) (hq : q b) (hr : RowIn q w kids b o) :
    Calls Tryz.prog 32 #[.slice (some ⟨b, o, none⟩) kids.length c] w fun e w' => Below w.heap.size w w' ∧ ∃ v, e = .returned v ∧ LockIn (fun b => q b ∨ w.heap.size ≤ b) w' (.mk 6 [] 0 kids) v := by
  have hc := fun (W : World) (hgw : GL [] w W) => lkClone kids b o c (fun b => q b ∧ b < w.heap.size) hm hk W (Nat.lt_of_lt_of_le hb hgw.size) ⟨hq, hb⟩ (rowIn_gl hgw kids b o hb ⟨hq, hb⟩ (rowIn_mono (fun b hb h => ⟨h, hb⟩) kids b o hr))
  have HC := Lib.hid hc
  clear hc hr
  go_enter Tryz.func32, Tryz.ntmps32
  go_wp2_with fail
  refine (HC.out _ (by (repeat' (first | with_reducible exact gl_refl _ _ | with_reducible assumption | with_reducible refine gl_alloc ?_ _ | with_reducible refine gl_drewN ?_ _ | with_reducible refine gl_drew ?_ | (with_reducible refine gl_setn ?_ ?_ _; · (first | exact Nat.le_refl _ | (simp; done) | (simp; omega) | omega)) | (with_reducible refine gl_seti ?_ ?_ _; · (simp; done)) | with_reducible refine gl_below (by with_reducible assumption) ?_ | with_reducible refine gl_step (by with_reducible assumption) ?_ (by first | (simp; done) | (simp; omega)) | with_reducible refine gl_grown (by with_reducible assumption) ?_ (by first | (simp; done) | (simp; omega)))))).mono ?_
  rintro e w1 ⟨hb1, g, cap, rfl, h1, h2, h3⟩
  have g1 := blk_below (blk_new w (.cells #[.int .u8 0, .string (bs []), .int .i64 0, .slice none 0 0] 25)) hb1 (by simp)
  have f1 := blk_cell g1
  have e1 := blk_free g1
  have l1 := blk_lt g1
  clear g1
  have H3 := Lib.hid h3
  clear h3
  simp at h1
  go_wp2_with fail
  refine bodyPost_ret (v := .agg #[.int .u8 6, .string (bs []), .int .i64 0, .slice (some ⟨g, 0, none⟩) kids.length cap]) (by simp [results, Tryz.results32, go_sem, f1, e1]) rfl ⟨?_, _, rfl, ?_⟩
  · (repeat' (first | with_reducible exact Below.refl _ _ | with_reducible assumption | with_reducible refine below_alloc ?_ ?_ _ | with_reducible refine Below.setCell ?_ ?_ _ | with_reducible refine Below.drew ?_ | with_reducible refine below_drewN ?_ _ | with_reducible refine below_step (by assumption) ?_ ?_ | (with_reducible refine Below.trans ?_ (Below.mono (by assumption) ?_)) | exact Nat.le_refl _ | (simp; done) | (simp; omega) | omega))
  · unfold LockIn
    refine ⟨by omega, by omega, by simp, by omega, _, rfl, .inr ⟨g, 0, cap, rfl, by simp; omega, .inr (by omega), ?_⟩⟩
    refine rowIn_stay (p := fun b => b ≠ w.heap.size ∧ (q b ∨ w.heap.size ≤ b)) (w := w1) ⟨by simp, fun b hb hp => ?_⟩ (fun b _ h => h.2) kids g 0 h2 ⟨by omega, .inr (by omega)⟩ (rowIn_mono (fun b hb h => ⟨by omega, .inl h.1⟩) kids g 0 H3.out)
    repeat (rw [Below.heap_setCell _ _ _ _ (by simpa using hp.1)])

end Go.Proofs.YtfmckibiblhakaaGreatDoor
