/- The laws of layer 11: LockMakes. -/
import Derived.Test.YtfmckibiblhakaaGreatDoorLawL
import Derived.Test.YtfmckibiblhakaaGreatDoorLRefC
set_option linter.unusedSimpArgs false
set_option linter.unusedVariables false
namespace Go.Proofs.YtfmckibiblhakaaGreatDoor
open Go.RowKit

set_option maxRecDepth 100000 in
set_option maxHeartbeats 1000000 in
theorem lkClone0 (w : World) : Calls Tryz.prog 86 #[.slice none 0 0] w fun e w' => e = .returned (.slice none 0 0) ∧ Below w.heap.size w w' := by
  have hsn : ∀ w : World, (binOp .eql 23 (.slice none 0 0) (.slice none 0 0)).run Tryz.prog w = .ok (.bool true) w := fun _ => by kernel_rfl
  go_enter Tryz.func86, Tryz.ntmps86
  go_wp2
  go_ret
  exact ⟨rfl, Below.refl _ _⟩
theorem rowIn_glW {q : Nat → Prop} {w w' : World} (hg : GL [] w w') : ∀ (l : List LT) (b o : Nat), b < w.heap.size → RowIn q w l b o → RowIn q w' l b o
  | [], _, _, _, _ => by unfold RowIn; trivial
  | x :: r, b, o, hb, h => by
    unfold RowIn at h ⊢
    obtain ⟨⟨c0, c1, c2, c3, hx, g0, g1, g2, g3⟩, hr⟩ := h
    have hc : ∀ j, w'.cell? ⟨b, j, none⟩ = w.cell? ⟨b, j, none⟩ := fun j => by simp only [World.cell?, hg.block b hb (by simp)]
    exact ⟨⟨c0, c1, c2, c3, lockIn_gl hg x _ hx, by rw [hc]; exact g0, by rw [hc]; exact g1, by rw [hc]; exact g2, by rw [hc]; exact g3⟩, rowIn_glW hg r b (o + 4) hb hr⟩

set_option maxRecDepth 100000 in
set_option maxHeartbeats 1000000 in
theorem rlSig (t : List UInt8) (w : World) : Calls Tryz.prog 34 #[.string (bs t)] w fun e w' => e = .returned (.agg #[.int .u8 1, .string (bs t), .int .i64 0, .slice none 0 0]) ∧ Below w.heap.size w w' := by
  go_enter Tryz.func34, Tryz.ntmps34
  go_wp2
  refine bodyPost_ret (v := .agg #[.int .u8 1, .string (bs t), .int .i64 0, .slice none 0 0]) (by simp [results, Tryz.results34, go_sem]) rfl ⟨rfl, ?_⟩
  (repeat' (first | with_reducible exact Below.refl _ _ | with_reducible assumption | with_reducible refine below_alloc ?_ ?_ _ | with_reducible refine Below.setCell ?_ ?_ _ | with_reducible refine Below.drew ?_ | with_reducible refine below_drewN ?_ _ | with_reducible refine below_step (by assumption) ?_ ?_ | (with_reducible refine Below.trans ?_ (Below.mono (by assumption) ?_)) | exact Nat.le_refl _ | (simp; done) | (simp; omega) | omega))

set_option maxRecDepth 100000 in
set_option maxHeartbeats 1000000 in
theorem rlPre (t : List UInt8) (w : World) : Calls Tryz.prog 36 #[.string (bs t)] w fun e w' => e = .returned (.agg #[.int .u8 2, .string (bs t), .int .i64 0, .slice none 0 0]) ∧ Below w.heap.size w w' := by
  go_enter Tryz.func36, Tryz.ntmps36
  go_wp2
  refine bodyPost_ret (v := .agg #[.int .u8 2, .string (bs t), .int .i64 0, .slice none 0 0]) (by simp [results, Tryz.results36, go_sem]) rfl ⟨rfl, ?_⟩
  (repeat' (first | with_reducible exact Below.refl _ _ | with_reducible assumption | with_reducible refine below_alloc ?_ ?_ _ | with_reducible refine Below.setCell ?_ ?_ _ | with_reducible refine Below.drew ?_ | with_reducible refine below_drewN ?_ _ | with_reducible refine below_step (by assumption) ?_ ?_ | (with_reducible refine Below.trans ?_ (Below.mono (by assumption) ?_)) | exact Nat.le_refl _ | (simp; done) | (simp; omega) | omega))

set_option maxRecDepth 100000 in
set_option maxHeartbeats 1000000 in
theorem rlAfter (n : Int) (w : World) : Calls Tryz.prog 38 #[.int .i64 n] w fun e w' => e = .returned (.agg #[.int .u8 3, .string (bs []), .int .i64 n, .slice none 0 0]) ∧ Below w.heap.size w w' := by
  go_enter Tryz.func38, Tryz.ntmps38
  go_wp2
  refine bodyPost_ret (v := .agg #[.int .u8 3, .string (bs []), .int .i64 n, .slice none 0 0]) (by simp [results, Tryz.results38, go_sem]) rfl ⟨rfl, ?_⟩
  (repeat' (first | with_reducible exact Below.refl _ _ | with_reducible assumption | with_reducible refine below_alloc ?_ ?_ _ | with_reducible refine Below.setCell ?_ ?_ _ | with_reducible refine Below.drew ?_ | with_reducible refine below_drewN ?_ _ | with_reducible refine below_step (by assumption) ?_ ?_ | (with_reducible refine Below.trans ?_ (Below.mono (by assumption) ?_)) | exact Nat.le_refl _ | (simp; done) | (simp; omega) | omega))

set_option maxRecDepth 100000 in
set_option maxHeartbeats 1000000 in
theorem rlOlder (n : Int) (w : World) : Calls Tryz.prog 40 #[.int .i64 n] w fun e w' => e = .returned (.agg #[.int .u8 4, .string (bs []), .int .i64 n, .slice none 0 0]) ∧ Below w.heap.size w w' := by
  go_enter Tryz.func40, Tryz.ntmps40
  go_wp2
  refine bodyPost_ret (v := .agg #[.int .u8 4, .string (bs []), .int .i64 n, .slice none 0 0]) (by simp [results, Tryz.results40, go_sem]) rfl ⟨rfl, ?_⟩
  (repeat' (first | with_reducible exact Below.refl _ _ | with_reducible assumption | with_reducible refine below_alloc ?_ ?_ _ | with_reducible refine Below.setCell ?_ ?_ _ | with_reducible refine Below.drew ?_ | with_reducible refine below_drewN ?_ _ | with_reducible refine below_step (by assumption) ?_ ?_ | (with_reducible refine Below.trans ?_ (Below.mono (by assumption) ?_)) | exact Nat.le_refl _ | (simp; done) | (simp; omega) | omega))

set_option maxRecDepth 100000 in
set_option maxHeartbeats 1000000 in
theorem rlAll (ad : Option Addr) (m c : Nat) (w : World) : Calls Tryz.prog 41 #[.slice ad m c] w fun e w' => e = .returned (.agg #[.int .u8 5, .string (bs []), .int .i64 0, .slice ad m c]) ∧ Below w.heap.size w w' := by
  go_enter Tryz.func41, Tryz.ntmps41
  go_wp2
  refine bodyPost_ret (v := .agg #[.int .u8 5, .string (bs []), .int .i64 0, .slice ad m c]) (by simp [results, Tryz.results41, go_sem]) rfl ⟨rfl, ?_⟩
  (repeat' (first | with_reducible exact Below.refl _ _ | with_reducible assumption | with_reducible refine below_alloc ?_ ?_ _ | with_reducible refine Below.setCell ?_ ?_ _ | with_reducible refine Below.drew ?_ | with_reducible refine below_drewN ?_ _ | with_reducible refine below_step (by assumption) ?_ ?_ | (with_reducible refine Below.trans ?_ (Below.mono (by assumption) ?_)) | exact Nat.le_refl _ | (simp; done) | (simp; omega) | omega))

set_option maxRecDepth 100000 in
set_option maxHeartbeats 1000000 in
theorem lkAll0 (w : World) : Calls Tryz.prog 31 #[.slice none 0 0] w fun e w' => e = .returned (.agg #[.int .u8 5, .string (bs []), .int .i64 0, .slice none 0 0]) ∧ Below w.heap.size w w' := by
  have hc := lkClone0
  go_enter Tryz.func31, Tryz.ntmps31
  go_wp2_with fail
  refine (hc _).mono ?_
  rintro e w1 ⟨rfl, hb1⟩
  have g1 := blk_below (blk_new w (.cells #[.int .u8 0, .string (bs []), .int .i64 0, .slice none 0 0] 25)) hb1 (by simp)
  have f1 := blk_cell g1
  have e1 := blk_free g1
  have l1 := blk_lt g1
  clear g1
  go_wp2_with fail
  refine bodyPost_ret (v := .agg #[.int .u8 5, .string (bs []), .int .i64 0, .slice none 0 0]) (by simp [results, Tryz.results31, go_sem, f1, e1]) rfl ⟨rfl, ?_⟩
  (repeat' (first | with_reducible exact Below.refl _ _ | with_reducible assumption | with_reducible refine below_alloc ?_ ?_ _ | with_reducible refine Below.setCell ?_ ?_ _ | with_reducible refine Below.drew ?_ | with_reducible refine below_drewN ?_ _ | with_reducible refine below_step (by assumption) ?_ ?_ | (with_reducible refine Below.trans ?_ (Below.mono (by assumption) ?_)) | exact Nat.le_refl _ | (simp; done) | (simp; omega) | omega))

set_option maxRecDepth 100000 in
set_option maxHeartbeats 1000000 in
theorem rlAny (ad : Option Addr) (m c : Nat) (w : World) : Calls Tryz.prog 42 #[.slice ad m c] w fun e w' => e = .returned (.agg #[.int .u8 6, .string (bs []), .int .i64 0, .slice ad m c]) ∧ Below w.heap.size w w' := by
  go_enter Tryz.func42, Tryz.ntmps42
  go_wp2
  refine bodyPost_ret (v := .agg #[.int .u8 6, .string (bs []), .int .i64 0, .slice ad m c]) (by simp [results, Tryz.results42, go_sem]) rfl ⟨rfl, ?_⟩
  (repeat' (first | with_reducible exact Below.refl _ _ | with_reducible assumption | with_reducible refine below_alloc ?_ ?_ _ | with_reducible refine Below.setCell ?_ ?_ _ | with_reducible refine Below.drew ?_ | with_reducible refine below_drewN ?_ _ | with_reducible refine below_step (by assumption) ?_ ?_ | (with_reducible refine Below.trans ?_ (Below.mono (by assumption) ?_)) | exact Nat.le_refl _ | (simp; done) | (simp; omega) | omega))

set_option maxRecDepth 100000 in
set_option maxHeartbeats 1000000 in
theorem lkAny0 (w : World) : Calls Tryz.prog 32 #[.slice none 0 0] w fun e w' => e = .returned (.agg #[.int .u8 6, .string (bs []), .int .i64 0, .slice none 0 0]) ∧ Below w.heap.size w w' := by
  have hc := lkClone0
  go_enter Tryz.func32, Tryz.ntmps32
  go_wp2_with fail
  refine (hc _).mono ?_
  rintro e w1 ⟨rfl, hb1⟩
  have g1 := blk_below (blk_new w (.cells #[.int .u8 0, .string (bs []), .int .i64 0, .slice none 0 0] 25)) hb1 (by simp)
  have f1 := blk_cell g1
  have e1 := blk_free g1
  have l1 := blk_lt g1
  clear g1
  go_wp2_with fail
  refine bodyPost_ret (v := .agg #[.int .u8 6, .string (bs []), .int .i64 0, .slice none 0 0]) (by simp [results, Tryz.results32, go_sem, f1, e1]) rfl ⟨rfl, ?_⟩
  (repeat' (first | with_reducible exact Below.refl _ _ | with_reducible assumption | with_reducible refine below_alloc ?_ ?_ _ | with_reducible refine Below.setCell ?_ ?_ _ | with_reducible refine Below.drew ?_ | with_reducible refine below_drewN ?_ _ | with_reducible refine below_step (by assumption) ?_ ?_ | (with_reducible refine Below.trans ?_ (Below.mono (by assumption) ?_)) | exact Nat.le_refl _ | (simp; done) | (simp; omega) | omega))

set_option maxRecDepth 100000 in
set_option maxHeartbeats 2000000 in
theorem lkCloneF (kids : List LT) (b o c : Nat) (q : Nat → Prop) (hm : 0 < kids.length) (hk : kids.length ≤ 1000) (w : World) (hb : b < w.heap.size) (hr : RowIn q w kids b o) :
    Calls Tryz.prog 86 #[.slice (some ⟨b, o, none⟩) kids.length c] w fun e w' => Below w.heap.size w w' ∧ ∃ g cap, e = .returned (.slice (some ⟨g, 0, none⟩) kids.length cap) ∧ w.heap.size ≤ g ∧ g < w'.heap.size ∧ RowIn q w' kids g 0 := by
  obtain ⟨cs, hv, hcs⟩ := rowIn_v kids o hr
  have hlen := rowV_len kids cs hv
  have hone := rowV_one kids cs hv
  obtain ⟨i0, hi0, hi1, hi2, hi3⟩ := info_parts Tryz.infoLock
  have HV := Lib.hid hv
  have HC := Lib.hid hcs
  have HO := Lib.hid hone
  clear hr hv hcs hone
  have hsn : ∀ (b o n c : Nat) (w : World), (binOp .eql 23 (.slice (some ⟨b, o, none⟩) n c) (.slice none 0 0)).run Tryz.prog w = .ok (.bool false) w := fun _ _ _ _ _ => by kernel_rfl
  go_enter Tryz.func86, Tryz.ntmps86
  go_wp2_with (at_builtin; go_must (refine wpList_append_own _ rfl _ _ 23 rfl w.heap.size 25 i0 (.agg #[.int .u8 0, .string ByteArray.empty, .int .i64 0, .slice none 0 0]) 4 56 Tryz.underlying23 hi0 hi1 hi2 hi3 rfl (by decide) _ 0 [] rfl ?own ⟨b, o, none⟩ kids.length c cs rfl hlen ?c1 HO.out ?c3 ?c4 ?c5 ?_; (case own => (refine ⟨rfl, .inr ⟨w.heap.size, 0, #[], rfl, Nat.le_refl _, ?_, Nat.le_refl _, by decide, rfl, rfl⟩⟩; exact blk_new _ _)); (case c1 => (intro j u hj; rw [Addr.add_lit]; have := HC.out j u hj; exact kcell_alloc this _)); (case c3 => (unfold maxLen; omega)); (case c4 => omega); (case c5 => (simp)); (intro v' w4 hown4 hgr4 _); (obtain ⟨ad4, n4, cp4, hv4⟩ := own_slice hown4); (subst hv4)))
  go_wp2
  go_ret
  have hgl : GL [] w w4 := gl_grown hgr4 (gl_alloc (gl_refl _ _) _) (fun r hr => by
    have hr2 : (Value.slice (some ⟨w.heap.size, 0, none⟩) 0 0).ownBlock = some r := hr
    right; simp [Value.ownBlock] at hr2; omega)
  have hbl := gl_to_below hgl
  refine ⟨hbl, ?_⟩
  rw [List.nil_append, Nat.zero_add] at hown4
  obtain ⟨g, cap, e, h1, h2, h3⟩ := own_row hown4 hm rfl (rowV_stay (stay_below hbl) (fun _ _ h => h) kids cs HV.out)
  exact ⟨g, cap, by rw [← e]; rfl, h1, h2, h3⟩


set_option maxRecDepth 100000 in
set_option maxHeartbeats 2000000 in
theorem lkAllF (kids : List LT) (b o c : Nat) (q : Nat → Prop) (hm : 0 < kids.length) (hk : kids.length ≤ 1000) (w : World) (hb : b < w.heap.size) (hr : RowIn q w kids b o) :
    Calls Tryz.prog 31 #[.slice (some ⟨b, o, none⟩) kids.length c] w fun e w' => Below w.heap.size w w' ∧ ∃ v, e = .returned v ∧ LockIn (fun b => q b ∨ w.heap.size ≤ b) w' (.mk 5 [] 0 kids) v := by
  have hc := fun (W : World) (hgw : GL [] w W) => lkCloneF kids b o c (fun b => q b ∧ b < w.heap.size) hm hk W (Nat.lt_of_lt_of_le hb hgw.size) (rowIn_glW hgw kids b o hb (rowIn_mono (fun b hb h => ⟨h, hb⟩) kids b o hr))
  have HC := Lib.hid hc
  clear hc hr
  go_enter Tryz.func31, Tryz.ntmps31
  go_wp2_with fail
  refine (HC.out _ (by (repeat' (first | with_reducible exact gl_refl _ _ | with_reducible assumption | with_reducible refine gl_alloc ?_ _ | with_reducible refine gl_drewN ?_ _ | with_reducible refine gl_drew ?_ | (with_reducible refine gl_setn ?_ ?_ _; · (first | exact Nat.le_refl _ | (simp; done) | (simp; omega) | omega)) | (with_reducible refine gl_seti ?_ ?_ _; · (simp; done)) | with_reducible refine gl_below (by with_reducible assumption) ?_ | with_reducible refine gl_step (by with_reducible assumption) ?_ (by first | (simp; done) | (simp; omega)) | with_reducible refine gl_grown (by with_reducible assumption) ?_ (by first | (simp; done) | (simp; omega)))))).mono ?_
  rintro e w1 ⟨hb1, g, cap, rfl, h1, h2, h3⟩
  have g1 := blk_below (blk_new w (.cells #[.int .u8 0, .string (bs []), .int .i64 0, .slice none 0 0] 25)) hb1 (by simp)
  have f1 := blk_cell g1
  have e1 := blk_free g1
  have l1 := blk_lt g1
  clear g1
  have H3 := Lib.hid h3
  clear h3
  simp at h1
  go_wp2_with fail
  refine bodyPost_ret (v := .agg #[.int .u8 5, .string (bs []), .int .i64 0, .slice (some ⟨g, 0, none⟩) kids.length cap]) (by simp [results, Tryz.results31, go_sem, f1, e1]) rfl ⟨?_, _, rfl, ?_⟩
  · (repeat' (first | with_reducible exact Below.refl _ _ | with_reducible assumption | with_reducible refine below_alloc ?_ ?_ _ | with_reducible refine Below.setCell ?_ ?_ _ | with_reducible refine Below.drew ?_ | with_reducible refine below_drewN ?_ _ | with_reducible refine below_step (by assumption) ?_ ?_ | (with_reducible refine Below.trans ?_ (Below.mono (by assumption) ?_)) | exact Nat.le_refl _ | (simp; done) | (simp; omega) | omega))
  · unfold LockIn
    refine ⟨by omega, by omega, by simp, by omega, _, rfl, .inr ⟨g, 0, cap, rfl, by simp; omega, .inr (by omega), ?_⟩⟩
    refine rowIn_stay (p := fun b => b ≠ w.heap.size ∧ (q b ∨ w.heap.size ≤ b)) (w := w1) ⟨by simp, fun b hb hp => ?_⟩ (fun b _ h => h.2) kids g 0 h2 ⟨by omega, .inr (by omega)⟩ (rowIn_mono (fun b hb h => ⟨by omega, .inl h.1⟩) kids g 0 H3.out)
    repeat (rw [Below.heap_setCell _ _ _ _ (by simpa using hp.1)])


set_option maxRecDepth 100000 in
set_option maxHeartbeats 2000000 in
theorem lkAnyF (kids : List LT) (b o c : Nat) (q : Nat → Prop) (hm : 0 < kids.length) (hk : kids.length ≤ 1000) (w : World) (hb : b < w.heap.size) (hr : RowIn q w kids b o) :
    Calls Tryz.prog 32 #[.slice (some ⟨b, o, none⟩) kids.length c] w fun e w' => Below w.heap.size w w' ∧ ∃ v, e = .returned v ∧ LockIn (fun b => q b ∨ w.heap.size ≤ b) w' (.mk 6 [] 0 kids) v := by
  have hc := fun (W : World) (hgw : GL [] w W) => lkCloneF kids b o c (fun b => q b ∧ b < w.heap.size) hm hk W (Nat.lt_of_lt_of_le hb hgw.size) (rowIn_glW hgw kids b o hb (rowIn_mono (fun b hb h => ⟨h, hb⟩) kids b o hr))
  have HC := Lib.hid hc
  clear hc hr
  go_enter Tryz.func32, Tryz.ntmps32
  go_wp2_with fail
  refine (HC.out _ (by (repeat' (first | with_reducible exact gl_refl _ _ | with_reducible assumption | with_reducible refine gl_alloc ?_ _ | with_reducible refine gl_drewN ?_ _ | with_reducible refine gl_drew ?_ | (with_reducible refine gl_setn ?_ ?_ _; · (first | exact Nat.le_refl _ | (simp; done) | (simp; omega) | omega)) | (with_reducible refine gl_seti ?_ ?_ _; · (simp; done)) | with_reducible refine gl_below (by with_reducible assumption) ?_ | with_reducible refine gl_step (by with_reducible assumption) ?_ (by first | (simp; done) | (simp; omega)) | with_reducible refine gl_grown (by with_reducible assumption) ?_ (by first | (simp; done) | (simp; omega)))))).mono ?_
  rintro e w1 ⟨hb1, g, cap, rfl, h1, h2, h3⟩
  have g1 := blk_below (blk_new w (.cells #[.int .u8 0, .string (bs []), .int .i64 0, .slice none 0 0] 25)) hb1 (by simp)
  have f1 := blk_cell g1
  have e1 := blk_free g1
  have l1 := blk_lt g1
  clear g1
  have H3 := Lib.hid h3
  clear h3
  simp at h1
  go_wp2_with fail
  refine bodyPost_ret (v := .agg #[.int .u8 6, .string (bs []), .int .i64 0, .slice (some ⟨g, 0, none⟩) kids.length cap]) (by simp [results, Tryz.results32, go_sem, f1, e1]) rfl ⟨?_, _, rfl, ?_⟩
  · (repeat' (first | with_reducible exact Below.refl _ _ | with_reducible assumption | with_reducible refine below_alloc ?_ ?_ _ | with_reducible refine Below.setCell ?_ ?_ _ | with_reducible refine Below.drew ?_ | with_reducible refine below_drewN ?_ _ | with_reducible refine below_step (by assumption) ?_ ?_ | (with_reducible refine Below.trans ?_ (Below.mono (by assumption) ?_)) | exact Nat.le_refl _ | (simp; done) | (simp; omega) | omega))
  · unfold LockIn
    refine ⟨by omega, by omega, by simp, by omega, _, rfl, .inr ⟨g, 0, cap, rfl, by simp; omega, .inr (by omega), ?_⟩⟩
    refine rowIn_stay (p := fun b => b ≠ w.heap.size ∧ (q b ∨ w.heap.size ≤ b)) (w := w1) ⟨by simp, fun b hb hp => ?_⟩ (fun b _ h => h.2) kids g 0 h2 ⟨by omega, .inr (by omega)⟩ (rowIn_mono (fun b hb h => ⟨by omega, .inl h.1⟩) kids g 0 H3.out)
    repeat (rw [Below.heap_setCell _ _ _ _ (by simpa using hp.1)])


theorem lock_addr {p : Nat → Prop} {w : World} {k n : Int} {t : List UInt8} {kids : List LT} {ad : Option Addr} {m c : Nat} (hk : 0 < kids.length) (h : LockIn p w (.mk k t n kids) (.agg #[.int .u8 k, .string (bs t), .int .i64 n, .slice ad m c])) : ∃ b o, ad = some ⟨b, o, none⟩ := by
  obtain ⟨ad2, c2, e, _, _, _, _, hd⟩ := lockIn_open h
  injection e with e
  have e := congrArg Array.toList e
  simp only [List.cons.injEq, and_true, true_and, Value.slice.injEq] at e
  obtain ⟨rfl, _, _⟩ := e
  rcases hd with h0 | ⟨b, o, h1, _⟩
  · subst h0; simp at hk
  · exact ⟨b, o, h1⟩
theorem lock_row {p : Nat → Prop} {w : World} {k n : Int} {t : List UInt8} {kids : List LT} {b o m c : Nat} (hk : 0 < kids.length) (h : LockIn p w (.mk k t n kids) (.agg #[.int .u8 k, .string (bs t), .int .i64 n, .slice (some ⟨b, o, none⟩) m c])) : b < w.heap.size ∧ RowIn p w kids b o := by
  obtain ⟨ad2, c2, e, _, _, _, _, hd⟩ := lockIn_open h
  injection e with e
  have e := congrArg Array.toList e
  simp only [List.cons.injEq, and_true, true_and, Value.slice.injEq] at e
  obtain ⟨rfl, _, _⟩ := e
  rcases hd with h0 | ⟨b2, o2, h1, h2, _, h3⟩
  · subst h0; simp at hk
  · injection h1 with h1
    injection h1 with h1 h4
    subst h1 h4
    exact ⟨h2, h3⟩
theorem lockIn_kind (k2 : Int) (hk : 0 ≤ k2 ∧ k2 ≤ 255) {p : Nat → Prop} {w : World} {k n : Int} {t : List UInt8} {kids : List LT} {ad : Option Addr} {m c : Nat} (h : LockIn p w (.mk k t n kids) (.agg #[.int .u8 k, .string (bs t), .int .i64 n, .slice ad m c])) :
    LockIn p w (.mk k2 [] 0 kids) (.agg #[.int .u8 k2, .string (bs []), .int .i64 0, .slice ad m c]) := by
  unfold LockIn at h ⊢
  obtain ⟨h1, h2, h3, h4, ks, h5, h6⟩ := h
  injection h5 with h5
  have h5 := congrArg Array.toList h5
  simp only [List.cons.injEq, and_true, true_and] at h5
  subst h5
  exact ⟨hk, by omega, by simp, h4, _, rfl, h6⟩
/-- Own's cells: all there. -/
def OwnAt (w : World) (O N : Nat) : Prop := ∃ cs : Array Value, w.heap[O]? = some (.cells cs 25 (0, 0)) ∧ N ≤ cs.size
theorem ownAt_cell {w : World} {O N : Nat} (h : OwnAt w O N) (i : Nat) (hi : i < N) : ∃ u, w.cell? ⟨O, i, none⟩ = some u := by
  obtain ⟨cs, h1, h2⟩ := h
  exact ⟨cs[i]'(by omega), by rw [blk_cell h1]; exact Array.getElem?_eq_getElem (by omega)⟩
theorem ownAt_free {w : World} {O N : Nat} (h : OwnAt w O N) (i : Nat) : w.frozen? ⟨O, i, none⟩ = false := by
  obtain ⟨cs, h1, h2⟩ := h
  exact blk_free h1 i
theorem ownAt_set {w : World} {O N : Nat} (h : OwnAt w O N) (i : Nat) (v : Value) : OwnAt (w.setCell ⟨O, i, none⟩ v) O N := by
  obtain ⟨cs, h1, h2⟩ := h
  exact ⟨_, blk_set h1 i v, by simpa using h2⟩

set_option maxRecDepth 100000 in
set_option maxHeartbeats 16000000 in
theorem lLockMakesA (t : List UInt8) (htl : t.length ≤ 5000) (n : Int) (hn0 : -9223372036854775808 ≤ n) (hn1 : n ≤ 9223372036854775807)  (c : Nat) (w : World) (hK : LockIn (fun _ => True) w (.mk 0 [] 0 []) (.agg #[.int .u8 0, .string (bs []), .int .i64 0, .slice none 0 c])) (hG : GOk w) :
    Calls Tryz.prog 8 #[.string (bs t), .int .i64 n, .slice none 0 c] w fun e w' => e = .returned (.bool true) ∧ Below w.heap.size w w' := by
  have htl9 : t.length ≤ 9000000000000000000 := by omega
  have b5 : decide (5000 < (t.length : Int)) = false := by simp; omega
  have HG0 := Lib.hid hG
  have HK0 := Lib.hid (lockIn_mono (q := fun b => b < w.heap.size) (fun b hb _ => hb) _ _ hK)
  clear hG hK
  go_enter Tryz.func8, Tryz.ntmps8
  have hg0 : GL [] w w := gl_refl _ _
  have hs0 : w.heap.size ≤ w.heap.size := Nat.le_refl _
  obtain ⟨i0, hi0, hi1, hi2, hi3⟩ := info_parts Tryz.infoLock
  go_wp2_with fail
  refine (lkSize 300 (by omega) (by omega) (.mk 0 [] 0 []) _ _ _ HK0.out).mono ?_
  rintro e w2 ⟨hb2, z1, rfl, hz10, hz11⟩
  have HG2 := Lib.hid (gok_below HG0.out hb2)
  have hg2 : GL [] w w2 := gl_below hb2 hg0
  have hs2 : w.heap.size ≤ w2.heap.size := hg2.size
  have HK2 := Lib.hid (lockIn_gl (gl_below hb2 (gl_refl _ _)) _ _ HK0.out)
  by_cases h1 : z1 ≤ 300
  · skip
    have b1 : decide (300 < z1) = false := by simp; omega
    go_wp2_with (at_builtin; go_must (refine wpList_append_none rfl _ _ 23 rfl w.heap.size 25 i0 4 Tryz.underlying23 hi0 (.slice none 0 0) 0 [] rfl (World.ownsRow_nil _ _ _ _) c rfl ?_))
    refine (lkAll0 _).mono ?_
    rintro e w4 ⟨rfl, hb4⟩
    have HG4 := Lib.hid (gok_below HG2.out hb4)
    have hg4 : GL [] w w4 := gl_below hb4 hg2
    have hs4 : w.heap.size ≤ w4.heap.size := hg4.size
    have HK4 := Lib.hid (lockIn_gl (gl_below hb4 (gl_refl _ _)) _ _ HK2.out)
    go_wp2_with fail
    refine (lkAny0 _).mono ?_
    rintro e w5 ⟨rfl, hb5⟩
    have HG5 := Lib.hid (gok_below HG4.out hb5)
    have hg5 : GL [] w w5 := gl_below hb5 hg4
    have hs5 : w.heap.size ≤ w5.heap.size := hg5.size
    have HK5 := Lib.hid (lockIn_gl (gl_below hb5 (gl_refl _ _)) _ _ HK4.out)
    go_wp2
    have HK6 := Lib.hid (lockIn_gl (gl_alloc (gl_alloc (gl_refl _ _) (.cells #[.int .u8 5, .string (bs []), .int .i64 0, .slice none 0 0] 25)) (.cells #[.int .u8 6, .string (bs []), .int .i64 0, .slice none 0 0] 25)) _ _ HK5.out)
    have HLA6 : Hid (((w5.alloc (.cells #[.int .u8 5, .string (bs []), .int .i64 0, .slice none 0 0] 25)).alloc (.cells #[.int .u8 6, .string (bs []), .int .i64 0, .slice none 0 0] 25)).heap[w5.heap.size]? = some (.cells #[.int .u8 5, .string (bs []), .int .i64 0, .slice none 0 0] 25 (0, 0))) := by
      have h := blk_new w5 (.cells #[.int .u8 5, .string (bs []), .int .i64 0, .slice none 0 0] 25)
      exact (blk_alloc h (.cells #[.int .u8 6, .string (bs []), .int .i64 0, .slice none 0 0] 25))
    have HLB6 : Hid (((w5.alloc (.cells #[.int .u8 5, .string (bs []), .int .i64 0, .slice none 0 0] 25)).alloc (.cells #[.int .u8 6, .string (bs []), .int .i64 0, .slice none 0 0] 25)).heap[w5.heap.size + 1]? = some (.cells #[.int .u8 6, .string (bs []), .int .i64 0, .slice none 0 0] 25 (0, 0))) := by
      have h := blk_new (w5.alloc (.cells #[.int .u8 5, .string (bs []), .int .i64 0, .slice none 0 0] 25)) (.cells #[.int .u8 6, .string (bs []), .int .i64 0, .slice none 0 0] 25)
      rw [show (w5.alloc (.cells #[.int .u8 5, .string (bs []), .int .i64 0, .slice none 0 0] 25)).heap.size = w5.heap.size + 1 by simp] at h
      exact h
    have HG6 := Lib.hid (gok_alloc (gok_alloc HG5.out (.cells #[.int .u8 5, .string (bs []), .int .i64 0, .slice none 0 0] 25)) (.cells #[.int .u8 6, .string (bs []), .int .i64 0, .slice none 0 0] 25))
    have hg6 : GL [] w ((w5.alloc (.cells #[.int .u8 5, .string (bs []), .int .i64 0, .slice none 0 0] 25)).alloc (.cells #[.int .u8 6, .string (bs []), .int .i64 0, .slice none 0 0] 25)) := (gl_alloc (gl_alloc hg5 (.cells #[.int .u8 5, .string (bs []), .int .i64 0, .slice none 0 0] 25)) (.cells #[.int .u8 6, .string (bs []), .int .i64 0, .slice none 0 0] 25))
    have geLA : w.heap.size ≤ w5.heap.size := by have := hg5.size; omega
    have gnLA : gN ≤ w5.heap.size := by have := HG5.out.size; omega
    have geLB : w.heap.size ≤ w5.heap.size + 1 := by have := hg5.size; omega
    have gnLB : gN ≤ w5.heap.size + 1 := by have := HG5.out.size; omega
    have ltLALB : w5.heap.size < w5.heap.size + 1 := by omega
    have neLALB : w5.heap.size ≠ w5.heap.size + 1 := by omega
    have neLBLA : w5.heap.size + 1 ≠ w5.heap.size := by omega
    generalize ((w5.alloc (.cells #[.int .u8 5, .string (bs []), .int .i64 0, .slice none 0 0] 25)).alloc (.cells #[.int .u8 6, .string (bs []), .int .i64 0, .slice none 0 0] 25)) = w6 at *
    generalize w5.heap.size + 1 = LB at *
    generalize w5.heap.size = LA at *
    have hs6 : w.heap.size ≤ w6.heap.size := hg6.size
    go_loopw [10] (fun iv wr => iv = .int .i64 0 ∧ Hid (wr = w6)) (fun _ _ => 0)
    case atStart => exact ⟨rfl, Lib.hid rfl⟩
    case round =>
      obtain ⟨rfl, hwr⟩ := hrel
      have hwr2 := hwr.out
      subst hwr2
      have HKS := Lib.hid HK6.out
      have HLA : Hid (LockIn (fun _ => True) wr (.mk 5 [] 0 []) (.agg #[.int .u8 5, .string (bs []), .int .i64 0, .slice none 0 0])) := by
        show LockIn _ _ _ _
        unfold LockIn
        exact ⟨by omega, by omega, by simp, by simp, _, rfl, .inl ⟨none, 0, rfl, rfl⟩⟩
      have HLB : Hid (LockIn (fun _ => True) wr (.mk 6 [] 0 []) (.agg #[.int .u8 6, .string (bs []), .int .i64 0, .slice none 0 0])) := by
        show LockIn _ _ _ _
        unfold LockIn
        exact ⟨by omega, by omega, by simp, by simp, _, rfl, .inl ⟨none, 0, rfl, rfl⟩⟩
      have fa1 := blk_cell HLA6.out
      have fb1 := blk_free HLA6.out
      have fl1 := blk_lt HLA6.out
      have fa2 := blk_cell HLB6.out
      have fb2 := blk_free HLB6.out
      have fl2 := blk_lt HLB6.out
      go_wp2
      have hc5 := fun (W : World) (hgw : GL [] wr W) => lkSame (.mk 5 [] 0 []) (.mk 5 [] 0 []) _ _ _ _ W (lockIn_gl hgw _ _ HLA.out) (lockIn_gl hgw _ _ (lockIn_kind 5 (by omega) HKS.out))
      have hc6 := fun (W : World) (hgw : GL [] wr W) => lkSame (.mk 6 [] 0 []) (.mk 6 [] 0 []) _ _ _ _ W (lockIn_gl hgw _ _ HLB.out) (lockIn_gl hgw _ _ (lockIn_kind 6 (by omega) HKS.out))
      have hw := fun (W : World) (hgw : GL [] wr W) => lWorks11 W (gok_gl HG6.out hgw (by simp))
      rw [sameL_self] at hc5 hc6
      have h1 := fun (W : World) => lkSame (.mk 1 t 0 []) (.mk 1 t 0 []) (fun _ => True) (fun _ => True) _ _ W (inSig t htl9 _ W) (inSig t htl9 _ W)
      have h2 := fun (W : World) => lkSame (.mk 2 t 0 []) (.mk 2 t 0 []) (fun _ => True) (fun _ => True) _ _ W (inPre t htl9 _ W) (inPre t htl9 _ W)
      have h3 := fun (W : World) => lkSame (.mk 3 [] n []) (.mk 3 [] n []) (fun _ => True) (fun _ => True) _ _ W (inAfter n hn0 hn1 _ W) (inAfter n hn0 hn1 _ W)
      have h4 := fun (W : World) => lkSame (.mk 4 [] n []) (.mk 4 [] n []) (fun _ => True) (fun _ => True) _ _ W (inOlder n hn0 hn1 _ W) (inOlder n hn0 hn1 _ W)
      rw [sameL_self] at h1 h2 h3 h4
      have HC5 := Lib.hid hc5
      have HC6 := Lib.hid hc6
      have HW := Lib.hid hw
      have H1 := Lib.hid h1
      have H2 := Lib.hid h2
      have H3 := Lib.hid h3
      have H4 := Lib.hid h4
      clear hc5 hc6 hw h1 h2 h3 h4
      have hg99 : GL [] wr wr := gl_refl _ _
      go_region_held3 (fun w' => w'.cell? ⟨LA, 0, none⟩ = some (.int .u8 5) ∧ w'.cell? ⟨LA, 1, none⟩ = some (.string (bs [])) ∧ w'.cell? ⟨LA, 2, none⟩ = some (.int .i64 0) ∧ w'.cell? ⟨LA, 3, none⟩ = some (.slice none 0 0) ∧ w'.cell? ⟨LB, 0, none⟩ = some (.int .u8 6) ∧ w'.cell? ⟨LB, 1, none⟩ = some (.string (bs [])) ∧ w'.cell? ⟨LB, 2, none⟩ = some (.int .i64 0) ∧ w'.cell? ⟨LB, 3, none⟩ = some (.slice none 0 0) ∧ GL [] wr w')
        (first
          | (refine ⟨?_, ?_, ?_, ?_, ?_, ?_, ?_, ?_, ?_⟩
             · go_keep
             · go_keep
             · go_keep
             · go_keep
             · go_keep
             · go_keep
             · go_keep
             · go_keep
             · exact gl_drew hg99)
          | (go_split_ands
             refine ⟨?_, ?_, ?_, ?_, ?_, ?_, ?_, ?_, ?_⟩
             · exact (hbk.cell (World.block_lt_of_cell? _ _ (by assumption))).trans (by assumption)
             · exact (hbk.cell (World.block_lt_of_cell? _ _ (by assumption))).trans (by assumption)
             · exact (hbk.cell (World.block_lt_of_cell? _ _ (by assumption))).trans (by assumption)
             · exact (hbk.cell (World.block_lt_of_cell? _ _ (by assumption))).trans (by assumption)
             · exact (hbk.cell (World.block_lt_of_cell? _ _ (by assumption))).trans (by assumption)
             · exact (hbk.cell (World.block_lt_of_cell? _ _ (by assumption))).trans (by assumption)
             · exact (hbk.cell (World.block_lt_of_cell? _ _ (by assumption))).trans (by assumption)
             · exact (hbk.cell (World.block_lt_of_cell? _ _ (by assumption))).trans (by assumption)
             · exact gl_below hbk (by assumption)))
        ((first
          | (go_at_call 33; go_split_ands; refine (lkSig _ _).mono ?_; rintro e wk ⟨rfl, hbk⟩)
          | (go_at_call 34; go_split_ands; refine (rlSig _ _).mono ?_; rintro e wk ⟨rfl, hbk⟩)
          | (go_at_call 35; go_split_ands; refine (lkPre _ _).mono ?_; rintro e wk ⟨rfl, hbk⟩)
          | (go_at_call 36; go_split_ands; refine (rlPre _ _).mono ?_; rintro e wk ⟨rfl, hbk⟩)
          | (go_at_call 37; go_split_ands; refine (lkAfter _ _).mono ?_; rintro e wk ⟨rfl, hbk⟩)
          | (go_at_call 38; go_split_ands; refine (rlAfter _ _).mono ?_; rintro e wk ⟨rfl, hbk⟩)
          | (go_at_call 39; go_split_ands; refine (lkOlder _ _).mono ?_; rintro e wk ⟨rfl, hbk⟩)
          | (go_at_call 40; go_split_ands; refine (rlOlder _ _).mono ?_; rintro e wk ⟨rfl, hbk⟩)
          | (go_at_call 41; go_split_ands; refine (rlAll _ _ _ _).mono ?_; rintro e wk ⟨rfl, hbk⟩)
          | (go_at_call 42; go_split_ands; refine (rlAny _ _ _ _).mono ?_; rintro e wk ⟨rfl, hbk⟩)
          | (go_at_call 26; go_split_ands; with_reducible refine (H1.out _).mono ?_; rintro e wk ⟨rfl, hbk⟩)
          | (go_at_call 26; go_split_ands; with_reducible refine (H2.out _).mono ?_; rintro e wk ⟨rfl, hbk⟩)
          | (go_at_call 26; go_split_ands; with_reducible refine (H3.out _).mono ?_; rintro e wk ⟨rfl, hbk⟩)
          | (go_at_call 26; go_split_ands; with_reducible refine (H4.out _).mono ?_; rintro e wk ⟨rfl, hbk⟩)
          | (go_at_call 26; go_split_ands; with_reducible refine (HC5.out _ (by assumption)).mono ?_; rintro e wk ⟨rfl, hbk⟩)
          | (go_at_call 26; go_split_ands; with_reducible refine (HC6.out _ (by assumption)).mono ?_; rintro e wk ⟨rfl, hbk⟩)
          | (go_at_call 23; go_split_ands; refine (HW.out _ (by assumption)).mono ?_; rintro e wk ⟨rfl, hbk⟩)))
      go_wp2
      go_ret
      exact ⟨rfl, gl_to_below (gl_step (gl_below hbk (by assumption)) hg6 (by simp))⟩
  · skip
    have b1 : decide (300 < z1) = true := by simp; omega
    go_wp2_with fail
    go_ret
    exact ⟨rfl, gl_to_below hg2⟩

set_option maxRecDepth 100000 in
set_option maxHeartbeats 16000000 in
theorem lLockMakesB (t : List UInt8) (htl : t.length ≤ 5000) (n : Int) (hn0 : -9223372036854775808 ≤ n) (hn1 : n ≤ 9223372036854775807) (a : Addr) (c : Nat) (w : World) (hK : LockIn (fun _ => True) w (.mk 0 [] 0 []) (.agg #[.int .u8 0, .string (bs []), .int .i64 0, .slice (some a) 0 c])) (hG : GOk w) :
    Calls Tryz.prog 8 #[.string (bs t), .int .i64 n, .slice (some a) 0 c] w fun e w' => e = .returned (.bool true) ∧ Below w.heap.size w w' := by
  have htl9 : t.length ≤ 9000000000000000000 := by omega
  have b5 : decide (5000 < (t.length : Int)) = false := by simp; omega
  have HG0 := Lib.hid hG
  have HK0 := Lib.hid (lockIn_mono (q := fun b => b < w.heap.size) (fun b hb _ => hb) _ _ hK)
  clear hG hK
  go_enter Tryz.func8, Tryz.ntmps8
  have hg0 : GL [] w w := gl_refl _ _
  have hs0 : w.heap.size ≤ w.heap.size := Nat.le_refl _
  obtain ⟨i0, hi0, hi1, hi2, hi3⟩ := info_parts Tryz.infoLock
  go_wp2_with fail
  refine (lkSize 300 (by omega) (by omega) (.mk 0 [] 0 []) _ _ _ HK0.out).mono ?_
  rintro e w2 ⟨hb2, z1, rfl, hz10, hz11⟩
  have HG2 := Lib.hid (gok_below HG0.out hb2)
  have hg2 : GL [] w w2 := gl_below hb2 hg0
  have hs2 : w.heap.size ≤ w2.heap.size := hg2.size
  have HK2 := Lib.hid (lockIn_gl (gl_below hb2 (gl_refl _ _)) _ _ HK0.out)
  by_cases h1 : z1 ≤ 300
  · skip
    have b1 : decide (300 < z1) = false := by simp; omega
    go_wp2_with (at_builtin; go_must (refine wpList_append_own _ rfl _ _ 23 rfl w.heap.size 25 i0 (.agg #[.int .u8 0, .string ByteArray.empty, .int .i64 0, .slice none 0 0]) 4 56 Tryz.underlying23 hi0 hi1 hi2 hi3 rfl (by decide) (.slice none 0 0) 0 [] rfl (World.ownsRow_nil _ _ _ _) a 0 c [] rfl rfl ?c1 ?c2 ?c3 ?c4 ?c5 ?_; (case c1 => (intro j u h; simp at h)); (case c2 => (intro u h; simp at h)); (case c3 => (unfold maxLen; omega)); (case c4 => omega); (case c5 => exact hs2); (intro v3 w3 hown3 hgr3 hv3); (have hv4 := hv3.2 ⟨rfl, rfl⟩); (clear hv3); (subst hv4); (have hg23 : GL [] w2 w3 := gl_grown hgr3 (gl_refl _ _) (fun r hr => by have hr2 : (Value.slice none 0 0).ownBlock = some r := hr; cases hr2))))
    have HG3 := Lib.hid (gok_gl HG2.out hg23 (by simp))
    have HK3 := Lib.hid (lockIn_gl hg23 _ _ HK2.out)
    have hg3 : GL [] w w3 := gl_step hg23 hg2 (by simp)
    have hs3 : w.heap.size ≤ w3.heap.size := hg3.size
    clear hown3 hgr3 hg23
    refine (lkAll0 _).mono ?_
    rintro e w4 ⟨rfl, hb4⟩
    have HG4 := Lib.hid (gok_below HG3.out hb4)
    have hg4 : GL [] w w4 := gl_below hb4 hg3
    have hs4 : w.heap.size ≤ w4.heap.size := hg4.size
    have HK4 := Lib.hid (lockIn_gl (gl_below hb4 (gl_refl _ _)) _ _ HK3.out)
    go_wp2_with fail
    refine (lkAny0 _).mono ?_
    rintro e w5 ⟨rfl, hb5⟩
    have HG5 := Lib.hid (gok_below HG4.out hb5)
    have hg5 : GL [] w w5 := gl_below hb5 hg4
    have hs5 : w.heap.size ≤ w5.heap.size := hg5.size
    have HK5 := Lib.hid (lockIn_gl (gl_below hb5 (gl_refl _ _)) _ _ HK4.out)
    go_wp2
    have HK6 := Lib.hid (lockIn_gl (gl_alloc (gl_alloc (gl_refl _ _) (.cells #[.int .u8 5, .string (bs []), .int .i64 0, .slice none 0 0] 25)) (.cells #[.int .u8 6, .string (bs []), .int .i64 0, .slice none 0 0] 25)) _ _ HK5.out)
    have HLA6 : Hid (((w5.alloc (.cells #[.int .u8 5, .string (bs []), .int .i64 0, .slice none 0 0] 25)).alloc (.cells #[.int .u8 6, .string (bs []), .int .i64 0, .slice none 0 0] 25)).heap[w5.heap.size]? = some (.cells #[.int .u8 5, .string (bs []), .int .i64 0, .slice none 0 0] 25 (0, 0))) := by
      have h := blk_new w5 (.cells #[.int .u8 5, .string (bs []), .int .i64 0, .slice none 0 0] 25)
      exact (blk_alloc h (.cells #[.int .u8 6, .string (bs []), .int .i64 0, .slice none 0 0] 25))
    have HLB6 : Hid (((w5.alloc (.cells #[.int .u8 5, .string (bs []), .int .i64 0, .slice none 0 0] 25)).alloc (.cells #[.int .u8 6, .string (bs []), .int .i64 0, .slice none 0 0] 25)).heap[w5.heap.size + 1]? = some (.cells #[.int .u8 6, .string (bs []), .int .i64 0, .slice none 0 0] 25 (0, 0))) := by
      have h := blk_new (w5.alloc (.cells #[.int .u8 5, .string (bs []), .int .i64 0, .slice none 0 0] 25)) (.cells #[.int .u8 6, .string (bs []), .int .i64 0, .slice none 0 0] 25)
      rw [show (w5.alloc (.cells #[.int .u8 5, .string (bs []), .int .i64 0, .slice none 0 0] 25)).heap.size = w5.heap.size + 1 by simp] at h
      exact h
    have HG6 := Lib.hid (gok_alloc (gok_alloc HG5.out (.cells #[.int .u8 5, .string (bs []), .int .i64 0, .slice none 0 0] 25)) (.cells #[.int .u8 6, .string (bs []), .int .i64 0, .slice none 0 0] 25))
    have hg6 : GL [] w ((w5.alloc (.cells #[.int .u8 5, .string (bs []), .int .i64 0, .slice none 0 0] 25)).alloc (.cells #[.int .u8 6, .string (bs []), .int .i64 0, .slice none 0 0] 25)) := (gl_alloc (gl_alloc hg5 (.cells #[.int .u8 5, .string (bs []), .int .i64 0, .slice none 0 0] 25)) (.cells #[.int .u8 6, .string (bs []), .int .i64 0, .slice none 0 0] 25))
    have geLA : w.heap.size ≤ w5.heap.size := by have := hg5.size; omega
    have gnLA : gN ≤ w5.heap.size := by have := HG5.out.size; omega
    have geLB : w.heap.size ≤ w5.heap.size + 1 := by have := hg5.size; omega
    have gnLB : gN ≤ w5.heap.size + 1 := by have := HG5.out.size; omega
    have ltLALB : w5.heap.size < w5.heap.size + 1 := by omega
    have neLALB : w5.heap.size ≠ w5.heap.size + 1 := by omega
    have neLBLA : w5.heap.size + 1 ≠ w5.heap.size := by omega
    generalize ((w5.alloc (.cells #[.int .u8 5, .string (bs []), .int .i64 0, .slice none 0 0] 25)).alloc (.cells #[.int .u8 6, .string (bs []), .int .i64 0, .slice none 0 0] 25)) = w6 at *
    generalize w5.heap.size + 1 = LB at *
    generalize w5.heap.size = LA at *
    have hs6 : w.heap.size ≤ w6.heap.size := hg6.size
    go_loopw [10] (fun iv wr => iv = .int .i64 0 ∧ Hid (wr = w6)) (fun _ _ => 0)
    case atStart => exact ⟨rfl, Lib.hid rfl⟩
    case round =>
      obtain ⟨rfl, hwr⟩ := hrel
      have hwr2 := hwr.out
      subst hwr2
      have HKS := Lib.hid HK6.out
      have HLA : Hid (LockIn (fun _ => True) wr (.mk 5 [] 0 []) (.agg #[.int .u8 5, .string (bs []), .int .i64 0, .slice none 0 0])) := by
        show LockIn _ _ _ _
        unfold LockIn
        exact ⟨by omega, by omega, by simp, by simp, _, rfl, .inl ⟨none, 0, rfl, rfl⟩⟩
      have HLB : Hid (LockIn (fun _ => True) wr (.mk 6 [] 0 []) (.agg #[.int .u8 6, .string (bs []), .int .i64 0, .slice none 0 0])) := by
        show LockIn _ _ _ _
        unfold LockIn
        exact ⟨by omega, by omega, by simp, by simp, _, rfl, .inl ⟨none, 0, rfl, rfl⟩⟩
      have fa1 := blk_cell HLA6.out
      have fb1 := blk_free HLA6.out
      have fl1 := blk_lt HLA6.out
      have fa2 := blk_cell HLB6.out
      have fb2 := blk_free HLB6.out
      have fl2 := blk_lt HLB6.out
      go_wp2
      have hc5 := fun (W : World) (hgw : GL [] wr W) => lkSame (.mk 5 [] 0 []) (.mk 5 [] 0 []) _ _ _ _ W (lockIn_gl hgw _ _ HLA.out) (lockIn_gl hgw _ _ (lockIn_kind 5 (by omega) HKS.out))
      have hc6 := fun (W : World) (hgw : GL [] wr W) => lkSame (.mk 6 [] 0 []) (.mk 6 [] 0 []) _ _ _ _ W (lockIn_gl hgw _ _ HLB.out) (lockIn_gl hgw _ _ (lockIn_kind 6 (by omega) HKS.out))
      have hw := fun (W : World) (hgw : GL [] wr W) => lWorks11 W (gok_gl HG6.out hgw (by simp))
      rw [sameL_self] at hc5 hc6
      have h1 := fun (W : World) => lkSame (.mk 1 t 0 []) (.mk 1 t 0 []) (fun _ => True) (fun _ => True) _ _ W (inSig t htl9 _ W) (inSig t htl9 _ W)
      have h2 := fun (W : World) => lkSame (.mk 2 t 0 []) (.mk 2 t 0 []) (fun _ => True) (fun _ => True) _ _ W (inPre t htl9 _ W) (inPre t htl9 _ W)
      have h3 := fun (W : World) => lkSame (.mk 3 [] n []) (.mk 3 [] n []) (fun _ => True) (fun _ => True) _ _ W (inAfter n hn0 hn1 _ W) (inAfter n hn0 hn1 _ W)
      have h4 := fun (W : World) => lkSame (.mk 4 [] n []) (.mk 4 [] n []) (fun _ => True) (fun _ => True) _ _ W (inOlder n hn0 hn1 _ W) (inOlder n hn0 hn1 _ W)
      rw [sameL_self] at h1 h2 h3 h4
      have HC5 := Lib.hid hc5
      have HC6 := Lib.hid hc6
      have HW := Lib.hid hw
      have H1 := Lib.hid h1
      have H2 := Lib.hid h2
      have H3 := Lib.hid h3
      have H4 := Lib.hid h4
      clear hc5 hc6 hw h1 h2 h3 h4
      have hg99 : GL [] wr wr := gl_refl _ _
      go_region_held3 (fun w' => w'.cell? ⟨LA, 0, none⟩ = some (.int .u8 5) ∧ w'.cell? ⟨LA, 1, none⟩ = some (.string (bs [])) ∧ w'.cell? ⟨LA, 2, none⟩ = some (.int .i64 0) ∧ w'.cell? ⟨LA, 3, none⟩ = some (.slice none 0 0) ∧ w'.cell? ⟨LB, 0, none⟩ = some (.int .u8 6) ∧ w'.cell? ⟨LB, 1, none⟩ = some (.string (bs [])) ∧ w'.cell? ⟨LB, 2, none⟩ = some (.int .i64 0) ∧ w'.cell? ⟨LB, 3, none⟩ = some (.slice none 0 0) ∧ GL [] wr w')
        (first
          | (refine ⟨?_, ?_, ?_, ?_, ?_, ?_, ?_, ?_, ?_⟩
             · go_keep
             · go_keep
             · go_keep
             · go_keep
             · go_keep
             · go_keep
             · go_keep
             · go_keep
             · exact gl_drew hg99)
          | (go_split_ands
             refine ⟨?_, ?_, ?_, ?_, ?_, ?_, ?_, ?_, ?_⟩
             · exact (hbk.cell (World.block_lt_of_cell? _ _ (by assumption))).trans (by assumption)
             · exact (hbk.cell (World.block_lt_of_cell? _ _ (by assumption))).trans (by assumption)
             · exact (hbk.cell (World.block_lt_of_cell? _ _ (by assumption))).trans (by assumption)
             · exact (hbk.cell (World.block_lt_of_cell? _ _ (by assumption))).trans (by assumption)
             · exact (hbk.cell (World.block_lt_of_cell? _ _ (by assumption))).trans (by assumption)
             · exact (hbk.cell (World.block_lt_of_cell? _ _ (by assumption))).trans (by assumption)
             · exact (hbk.cell (World.block_lt_of_cell? _ _ (by assumption))).trans (by assumption)
             · exact (hbk.cell (World.block_lt_of_cell? _ _ (by assumption))).trans (by assumption)
             · exact gl_below hbk (by assumption)))
        ((first
          | (go_at_call 33; go_split_ands; refine (lkSig _ _).mono ?_; rintro e wk ⟨rfl, hbk⟩)
          | (go_at_call 34; go_split_ands; refine (rlSig _ _).mono ?_; rintro e wk ⟨rfl, hbk⟩)
          | (go_at_call 35; go_split_ands; refine (lkPre _ _).mono ?_; rintro e wk ⟨rfl, hbk⟩)
          | (go_at_call 36; go_split_ands; refine (rlPre _ _).mono ?_; rintro e wk ⟨rfl, hbk⟩)
          | (go_at_call 37; go_split_ands; refine (lkAfter _ _).mono ?_; rintro e wk ⟨rfl, hbk⟩)
          | (go_at_call 38; go_split_ands; refine (rlAfter _ _).mono ?_; rintro e wk ⟨rfl, hbk⟩)
          | (go_at_call 39; go_split_ands; refine (lkOlder _ _).mono ?_; rintro e wk ⟨rfl, hbk⟩)
          | (go_at_call 40; go_split_ands; refine (rlOlder _ _).mono ?_; rintro e wk ⟨rfl, hbk⟩)
          | (go_at_call 41; go_split_ands; refine (rlAll _ _ _ _).mono ?_; rintro e wk ⟨rfl, hbk⟩)
          | (go_at_call 42; go_split_ands; refine (rlAny _ _ _ _).mono ?_; rintro e wk ⟨rfl, hbk⟩)
          | (go_at_call 26; go_split_ands; with_reducible refine (H1.out _).mono ?_; rintro e wk ⟨rfl, hbk⟩)
          | (go_at_call 26; go_split_ands; with_reducible refine (H2.out _).mono ?_; rintro e wk ⟨rfl, hbk⟩)
          | (go_at_call 26; go_split_ands; with_reducible refine (H3.out _).mono ?_; rintro e wk ⟨rfl, hbk⟩)
          | (go_at_call 26; go_split_ands; with_reducible refine (H4.out _).mono ?_; rintro e wk ⟨rfl, hbk⟩)
          | (go_at_call 26; go_split_ands; with_reducible refine (HC5.out _ (by assumption)).mono ?_; rintro e wk ⟨rfl, hbk⟩)
          | (go_at_call 26; go_split_ands; with_reducible refine (HC6.out _ (by assumption)).mono ?_; rintro e wk ⟨rfl, hbk⟩)
          | (go_at_call 23; go_split_ands; refine (HW.out _ (by assumption)).mono ?_; rintro e wk ⟨rfl, hbk⟩)))
      go_wp2
      go_ret
      exact ⟨rfl, gl_to_below (gl_step (gl_below hbk (by assumption)) hg6 (by simp))⟩
  · skip
    have b1 : decide (300 < z1) = true := by simp; omega
    go_wp2_with fail
    go_ret
    exact ⟨rfl, gl_to_below hg2⟩

theorem own_at {w : World} {base n m : Nat} {xs : List Value} {O oc : Nat} (h : w.ownsRow base 25 4 (.slice (some ⟨O, 0, none⟩) m oc) n xs) : OwnAt w O (m * 4) := by
  rcases h.2 with ⟨h, _⟩ | ⟨g, cap, cur, h, hb, hg, hc, hc2, hs, ht⟩
  · cases h
  · injection h with h1 h2 h3
    injection h1 with h1
    injection h1 with h1
    subst h1 h2 h3
    exact ⟨cur, hg, by omega⟩
theorem ownAt_gl {w w' : World} {O N : Nat} {rs : List Nat} (h : OwnAt w O N) (hg : GL rs w w') (hr : O ∉ rs) : OwnAt w' O N := by
  obtain ⟨cs, h1, h2⟩ := h
  exact ⟨cs, blk_gl h1 hg hr, h2⟩

set_option maxRecDepth 100000 in
set_option maxHeartbeats 16000000 in
theorem lLockMakesC (t : List UInt8) (htl : t.length ≤ 5000) (n : Int) (hn0 : -9223372036854775808 ≤ n) (hn1 : n ≤ 9223372036854775807) (kids : List LT) (hk0 : 0 < kids.length) (hk40 : kids.length ≤ 40) (b o : Nat) (c : Nat) (w : World) (hK : LockIn (fun _ => True) w (.mk 0 [] 0 kids) (.agg #[.int .u8 0, .string (bs []), .int .i64 0, .slice (some ⟨b, o, none⟩) kids.length c])) (hG : GOk w) :
    Calls Tryz.prog 8 #[.string (bs t), .int .i64 n, .slice (some ⟨b, o, none⟩) kids.length c] w fun e w' => e = .returned (.bool true) ∧ Below w.heap.size w w' := by
  have htl9 : t.length ≤ 9000000000000000000 := by omega
  have b5 : decide (5000 < (t.length : Int)) = false := by simp; omega
  have HG0 := Lib.hid hG
  have HK0 := Lib.hid (lockIn_mono (q := fun b => b < w.heap.size) (fun b hb _ => hb) _ _ hK)
  have b40 : decide (40 < (kids.length : Int)) = false := by simp; omega
  obtain ⟨hbw, hrow⟩ := lock_row hk0 hK
  have HROW := Lib.hid (rowIn_mono (q := fun b => b < w.heap.size) (fun b hb _ => hb) _ _ _ hrow)
  clear hG hK hrow
  go_enter Tryz.func8, Tryz.ntmps8
  have hg0 : GL [] w w := gl_refl _ _
  have hs0 : w.heap.size ≤ w.heap.size := Nat.le_refl _
  obtain ⟨i0, hi0, hi1, hi2, hi3⟩ := info_parts Tryz.infoLock
  go_wp2_with fail
  refine (lkSize 300 (by omega) (by omega) (.mk 0 [] 0 kids) _ _ _ HK0.out).mono ?_
  rintro e w2 ⟨hb2, z1, rfl, hz10, hz11⟩
  have HG2 := Lib.hid (gok_below HG0.out hb2)
  have hg2 : GL [] w w2 := gl_below hb2 hg0
  have hs2 : w.heap.size ≤ w2.heap.size := hg2.size
  have HK2 := Lib.hid (lockIn_gl (gl_below hb2 (gl_refl _ _)) _ _ HK0.out)
  by_cases h1 : z1 ≤ 300
  · skip
    have b1 : decide (300 < z1) = false := by simp; omega
    obtain ⟨cs, hv, hcs⟩ := rowIn_v kids o HROW.out
    have hcl := rowV_len kids cs hv
    have hone := rowV_one kids cs hv
    have HV := Lib.hid hv
    have HCS := Lib.hid hcs
    have HONE := Lib.hid hone
    have hg02 := hg2
    clear hv hcs hone
    go_wp2_with (at_builtin; go_must (refine wpList_append_own _ rfl _ _ 23 rfl w2.heap.size 25 i0 (.agg #[.int .u8 0, .string ByteArray.empty, .int .i64 0, .slice none 0 0]) 4 56 Tryz.underlying23 hi0 hi1 hi2 hi3 rfl (by decide) (.slice none 0 0) 0 [] rfl (World.ownsRow_nil _ _ _ _) ⟨b, o, none⟩ kids.length c cs rfl hcl ?c1 HONE.out ?c3 ?c4 ?c5 ?_; (case c1 => (intro j u hj; rw [Addr.add_lit]; have h7 := HCS.out j u hj; simp only [World.cell?, hg02.block b hbw (by simp)] at h7 ⊢; exact h7)); (case c3 => (unfold maxLen; omega)); (case c4 => omega); (case c5 => exact Nat.le_refl _); (intro v3 w3 hown3 hgr3 _); (have hg23 : GL [] w2 w3 := gl_grown hgr3 (gl_refl _ _) (fun r hr => by have hr2 : (Value.slice none 0 0).ownBlock = some r := hr; cases hr2)); (obtain ⟨O, oc, hv3, hO0, hO1, hrw3⟩ := own_row hown3 (by omega) (by omega) (rowV_stay (q := fun b => b < w.heap.size) (stay_below (gl_to_below (gl_step hg23 hg2 (by simp)))) (fun _ _ h => h) kids cs HV.out)); (rw [Nat.zero_add] at hv3); (subst hv3)))
    have HRW3 := Lib.hid hrw3
    have HO3 : Hid (OwnAt w3 O (kids.length * 4)) := own_at hown3
    have HG3 := Lib.hid (gok_gl HG2.out hg23 (by simp))
    have HK3 := Lib.hid (lockIn_gl hg23 _ _ HK2.out)
    have hg3 : GL [] w w3 := gl_step hg23 hg2 (by simp)
    have hs3 : w.heap.size ≤ w3.heap.size := hg3.size
    clear hrw3 hown3 hgr3
    refine (lkAllF kids O 0 _ (fun b => b < w.heap.size) (by omega) (by omega) _ (by have := hg3.size; omega) HRW3.out).mono ?_
    rintro e w4 ⟨hb4, v4, rfl, hl4⟩
    obtain ⟨ad4, cp4, rfl, _⟩ := lockIn_open hl4
    have HL4 := Lib.hid (lockIn_mono (q := fun b => b ≠ O) (fun b _ h => by omega) _ _ hl4)
    have hg34 : GL [] w3 w4 := gl_below hb4 (gl_refl _ _)
    have HG4 := Lib.hid (gok_below HG3.out hb4)
    have HK4 := Lib.hid (lockIn_gl hg34 _ _ HK3.out)
    have HO4 := Lib.hid (ownAt_gl HO3.out hg34 (by simp))
    have hg4 : GL [] w w4 := gl_below hb4 hg3
    have hs4 : w3.heap.size ≤ w4.heap.size := hb4.size
    clear hl4
    have HRW4 := Lib.hid (rowIn_glW hg34 kids O 0 (by omega) HRW3.out)
    go_wp2_with fail
    refine (lkAnyF kids O 0 _ (fun b => b < w.heap.size) (by omega) (by omega) _ (by have := hg3.size; omega) HRW4.out).mono ?_
    rintro e w5 ⟨hb5, v5, rfl, hl5⟩
    obtain ⟨ad5, cp5, rfl, _⟩ := lockIn_open hl5
    have HL5 := Lib.hid (lockIn_mono (q := fun b => b ≠ O) (fun b _ h => by omega) _ _ hl5)
    have hg45 : GL [] w4 w5 := gl_below hb5 (gl_refl _ _)
    have HG5 := Lib.hid (gok_below HG4.out hb5)
    have HK5 := Lib.hid (lockIn_gl hg45 _ _ HK4.out)
    have HO5 := Lib.hid (ownAt_gl HO4.out hg45 (by simp))
    have hg5 : GL [] w w5 := gl_below hb5 hg4
    have hs5 : w4.heap.size ≤ w5.heap.size := hb5.size
    clear hl5
    have HLL5 := Lib.hid (lockIn_gl hg45 _ _ HL4.out)
    go_wp2
    have hgA : GL [] w5 ((w5.alloc (.cells #[.int .u8 5, .string (bs []), .int .i64 0, .slice ad4 kids.length cp4] 25)).alloc (.cells #[.int .u8 6, .string (bs []), .int .i64 0, .slice ad5 kids.length cp5] 25)) := gl_alloc (gl_alloc (gl_refl _ _) _) _
    have HL6 := Lib.hid (lockIn_gl hgA _ _ HLL5.out)
    have HM6 := Lib.hid (lockIn_gl hgA _ _ HL5.out)
    have HO6 := Lib.hid (ownAt_gl HO5.out hgA (by simp))
    have hO5 : O < w5.heap.size := by omega
    clear hgA
    have HK6 := Lib.hid (lockIn_gl (gl_alloc (gl_alloc (gl_refl _ _) (.cells #[.int .u8 5, .string (bs []), .int .i64 0, .slice ad4 kids.length cp4] 25)) (.cells #[.int .u8 6, .string (bs []), .int .i64 0, .slice ad5 kids.length cp5] 25)) _ _ HK5.out)
    have HLA6 : Hid (((w5.alloc (.cells #[.int .u8 5, .string (bs []), .int .i64 0, .slice ad4 kids.length cp4] 25)).alloc (.cells #[.int .u8 6, .string (bs []), .int .i64 0, .slice ad5 kids.length cp5] 25)).heap[w5.heap.size]? = some (.cells #[.int .u8 5, .string (bs []), .int .i64 0, .slice ad4 kids.length cp4] 25 (0, 0))) := by
      have h := blk_new w5 (.cells #[.int .u8 5, .string (bs []), .int .i64 0, .slice ad4 kids.length cp4] 25)
      exact (blk_alloc h (.cells #[.int .u8 6, .string (bs []), .int .i64 0, .slice ad5 kids.length cp5] 25))
    have HLB6 : Hid (((w5.alloc (.cells #[.int .u8 5, .string (bs []), .int .i64 0, .slice ad4 kids.length cp4] 25)).alloc (.cells #[.int .u8 6, .string (bs []), .int .i64 0, .slice ad5 kids.length cp5] 25)).heap[w5.heap.size + 1]? = some (.cells #[.int .u8 6, .string (bs []), .int .i64 0, .slice ad5 kids.length cp5] 25 (0, 0))) := by
      have h := blk_new (w5.alloc (.cells #[.int .u8 5, .string (bs []), .int .i64 0, .slice ad4 kids.length cp4] 25)) (.cells #[.int .u8 6, .string (bs []), .int .i64 0, .slice ad5 kids.length cp5] 25)
      rw [show (w5.alloc (.cells #[.int .u8 5, .string (bs []), .int .i64 0, .slice ad4 kids.length cp4] 25)).heap.size = w5.heap.size + 1 by simp] at h
      exact h
    have HG6 := Lib.hid (gok_alloc (gok_alloc HG5.out (.cells #[.int .u8 5, .string (bs []), .int .i64 0, .slice ad4 kids.length cp4] 25)) (.cells #[.int .u8 6, .string (bs []), .int .i64 0, .slice ad5 kids.length cp5] 25))
    have hg6 : GL [] w ((w5.alloc (.cells #[.int .u8 5, .string (bs []), .int .i64 0, .slice ad4 kids.length cp4] 25)).alloc (.cells #[.int .u8 6, .string (bs []), .int .i64 0, .slice ad5 kids.length cp5] 25)) := (gl_alloc (gl_alloc hg5 (.cells #[.int .u8 5, .string (bs []), .int .i64 0, .slice ad4 kids.length cp4] 25)) (.cells #[.int .u8 6, .string (bs []), .int .i64 0, .slice ad5 kids.length cp5] 25))
    have geLA : w.heap.size ≤ w5.heap.size := by have := hg5.size; omega
    have gnLA : gN ≤ w5.heap.size := by have := HG5.out.size; omega
    have geLB : w.heap.size ≤ w5.heap.size + 1 := by have := hg5.size; omega
    have gnLB : gN ≤ w5.heap.size + 1 := by have := HG5.out.size; omega
    have ltLALB : w5.heap.size < w5.heap.size + 1 := by omega
    have neLALB : w5.heap.size ≠ w5.heap.size + 1 := by omega
    have neLBLA : w5.heap.size + 1 ≠ w5.heap.size := by omega
    generalize ((w5.alloc (.cells #[.int .u8 5, .string (bs []), .int .i64 0, .slice ad4 kids.length cp4] 25)).alloc (.cells #[.int .u8 6, .string (bs []), .int .i64 0, .slice ad5 kids.length cp5] 25)) = w6 at *
    generalize w5.heap.size + 1 = LB at *
    generalize w5.heap.size = LA at *
    have hs6 : w.heap.size ≤ w6.heap.size := hg6.size
    have hOA : LA ≠ O := by omega
    have hOB : LB ≠ O := by omega
    have hOn : gN ≤ O := by have := HG2.out.size; omega
    clear hs3 hs4 hs5
    go_loopw [10] (fun iv wr => ∃ j : Nat, j ≤ kids.length ∧ iv = .int .i64 j ∧ Hid (GL [O] w6 wr) ∧ Hid (OwnAt wr O (kids.length * 4))) (fun iv _ => kids.length - (intOf iv).toNat)
    case atStart => exact ⟨0, by omega, rfl, Lib.hid (gl_refl _ _), HO6⟩
    case round =>
      obtain ⟨j, hj, rfl, hgr, hor⟩ := hrel
      by_cases hlt : j < kids.length
      · have i3 : (j : Int) < kids.length := by omega
        obtain ⟨u0, c0⟩ := ownAt_cell hor.out (j * 4) (by omega)
        obtain ⟨u1, c1⟩ := ownAt_cell hor.out (j * 4 + 1) (by omega)
        obtain ⟨u2, c2⟩ := ownAt_cell hor.out (j * 4 + 2) (by omega)
        obtain ⟨u3, c3⟩ := ownAt_cell hor.out (j * 4 + 3) (by omega)
        have f0 := ownAt_free hor.out
        go_wp2
        go_roundw
        case rel => exact ⟨j + 1, by omega, by go_num, Lib.hid (gl_set (gl_set (gl_set (gl_set hgr.out (.inl (by simp)) _) (.inl (by simp)) _) (.inl (by simp)) _) (.inl (by simp)) _), Lib.hid (ownAt_set (ownAt_set (ownAt_set (ownAt_set hor.out _ _) _ _) _ _) _ _)⟩
        case measure => simp [intOf]; omega
      · obtain rfl : j = kids.length := by omega
        have i4 : decide ((kids.length : Int) < kids.length) = false := by simp
        have hst : Stay (fun b => b ≠ O) w6 wr := ⟨hgr.out.size, fun b hb hp => hgr.out.block b hb (by simpa using hp)⟩
        have HLA := Lib.hid (lockIn_stay hst (fun _ _ h => h) _ _ HL6.out)
        have HLB := Lib.hid (lockIn_stay hst (fun _ _ h => h) _ _ HM6.out)
        have HKS := Lib.hid (lockIn_stay hst (fun _ _ h => h) _ _ (lockIn_mono (q := fun b => b ≠ O) (fun b _ h => by omega) _ _ HK6.out))
        have HGr := Lib.hid (gok_gl HG6.out hgr.out (by simp; omega))
        have HLAr := Lib.hid (blk_gl HLA6.out hgr.out (by simpa using hOA))
        have HLBr := Lib.hid (blk_gl HLB6.out hgr.out (by simpa using hOB))
        have hgr2 : GL [] w wr := gl_step hgr.out hg6 (by simp; omega)
        have fa1 := blk_cell HLAr.out
        have fb1 := blk_free HLAr.out
        have fl1 := blk_lt HLAr.out
        have fa2 := blk_cell HLBr.out
        have fb2 := blk_free HLBr.out
        have fl2 := blk_lt HLBr.out
        have hgr := hgr2
        go_wp2
        have hc5 := fun (W : World) (hgw : GL [] wr W) => lkSame (.mk 5 [] 0 kids) (.mk 5 [] 0 kids) _ _ _ _ W (lockIn_gl hgw _ _ HLA.out) (lockIn_gl hgw _ _ (lockIn_kind 5 (by omega) HKS.out))
        have hc6 := fun (W : World) (hgw : GL [] wr W) => lkSame (.mk 6 [] 0 kids) (.mk 6 [] 0 kids) _ _ _ _ W (lockIn_gl hgw _ _ HLB.out) (lockIn_gl hgw _ _ (lockIn_kind 6 (by omega) HKS.out))
        have hw := fun (W : World) (hgw : GL [] wr W) => lWorks11 W (gok_gl HGr.out hgw (by simp))
        rw [sameL_self] at hc5 hc6
        have h1 := fun (W : World) => lkSame (.mk 1 t 0 []) (.mk 1 t 0 []) (fun _ => True) (fun _ => True) _ _ W (inSig t htl9 _ W) (inSig t htl9 _ W)
        have h2 := fun (W : World) => lkSame (.mk 2 t 0 []) (.mk 2 t 0 []) (fun _ => True) (fun _ => True) _ _ W (inPre t htl9 _ W) (inPre t htl9 _ W)
        have h3 := fun (W : World) => lkSame (.mk 3 [] n []) (.mk 3 [] n []) (fun _ => True) (fun _ => True) _ _ W (inAfter n hn0 hn1 _ W) (inAfter n hn0 hn1 _ W)
        have h4 := fun (W : World) => lkSame (.mk 4 [] n []) (.mk 4 [] n []) (fun _ => True) (fun _ => True) _ _ W (inOlder n hn0 hn1 _ W) (inOlder n hn0 hn1 _ W)
        rw [sameL_self] at h1 h2 h3 h4
        have HC5 := Lib.hid hc5
        have HC6 := Lib.hid hc6
        have HW := Lib.hid hw
        have H1 := Lib.hid h1
        have H2 := Lib.hid h2
        have H3 := Lib.hid h3
        have H4 := Lib.hid h4
        clear hc5 hc6 hw h1 h2 h3 h4
        have hg99 : GL [] wr wr := gl_refl _ _
        go_region_held3 (fun w' => w'.cell? ⟨LA, 0, none⟩ = some (.int .u8 5) ∧ w'.cell? ⟨LA, 1, none⟩ = some (.string (bs [])) ∧ w'.cell? ⟨LA, 2, none⟩ = some (.int .i64 0) ∧ w'.cell? ⟨LA, 3, none⟩ = some (.slice ad4 kids.length cp4) ∧ w'.cell? ⟨LB, 0, none⟩ = some (.int .u8 6) ∧ w'.cell? ⟨LB, 1, none⟩ = some (.string (bs [])) ∧ w'.cell? ⟨LB, 2, none⟩ = some (.int .i64 0) ∧ w'.cell? ⟨LB, 3, none⟩ = some (.slice ad5 kids.length cp5) ∧ GL [] wr w')
          (first
            | (refine ⟨?_, ?_, ?_, ?_, ?_, ?_, ?_, ?_, ?_⟩
               · go_keep
               · go_keep
               · go_keep
               · go_keep
               · go_keep
               · go_keep
               · go_keep
               · go_keep
               · exact gl_drew hg99)
            | (go_split_ands
               refine ⟨?_, ?_, ?_, ?_, ?_, ?_, ?_, ?_, ?_⟩
               · exact (hbk.cell (World.block_lt_of_cell? _ _ (by assumption))).trans (by assumption)
               · exact (hbk.cell (World.block_lt_of_cell? _ _ (by assumption))).trans (by assumption)
               · exact (hbk.cell (World.block_lt_of_cell? _ _ (by assumption))).trans (by assumption)
               · exact (hbk.cell (World.block_lt_of_cell? _ _ (by assumption))).trans (by assumption)
               · exact (hbk.cell (World.block_lt_of_cell? _ _ (by assumption))).trans (by assumption)
               · exact (hbk.cell (World.block_lt_of_cell? _ _ (by assumption))).trans (by assumption)
               · exact (hbk.cell (World.block_lt_of_cell? _ _ (by assumption))).trans (by assumption)
               · exact (hbk.cell (World.block_lt_of_cell? _ _ (by assumption))).trans (by assumption)
               · exact gl_below hbk (by assumption)))
          ((first
            | (go_at_call 33; go_split_ands; refine (lkSig _ _).mono ?_; rintro e wk ⟨rfl, hbk⟩)
            | (go_at_call 34; go_split_ands; refine (rlSig _ _).mono ?_; rintro e wk ⟨rfl, hbk⟩)
            | (go_at_call 35; go_split_ands; refine (lkPre _ _).mono ?_; rintro e wk ⟨rfl, hbk⟩)
            | (go_at_call 36; go_split_ands; refine (rlPre _ _).mono ?_; rintro e wk ⟨rfl, hbk⟩)
            | (go_at_call 37; go_split_ands; refine (lkAfter _ _).mono ?_; rintro e wk ⟨rfl, hbk⟩)
            | (go_at_call 38; go_split_ands; refine (rlAfter _ _).mono ?_; rintro e wk ⟨rfl, hbk⟩)
            | (go_at_call 39; go_split_ands; refine (lkOlder _ _).mono ?_; rintro e wk ⟨rfl, hbk⟩)
            | (go_at_call 40; go_split_ands; refine (rlOlder _ _).mono ?_; rintro e wk ⟨rfl, hbk⟩)
            | (go_at_call 41; go_split_ands; refine (rlAll _ _ _ _).mono ?_; rintro e wk ⟨rfl, hbk⟩)
            | (go_at_call 42; go_split_ands; refine (rlAny _ _ _ _).mono ?_; rintro e wk ⟨rfl, hbk⟩)
            | (go_at_call 26; go_split_ands; with_reducible refine (H1.out _).mono ?_; rintro e wk ⟨rfl, hbk⟩)
            | (go_at_call 26; go_split_ands; with_reducible refine (H2.out _).mono ?_; rintro e wk ⟨rfl, hbk⟩)
            | (go_at_call 26; go_split_ands; with_reducible refine (H3.out _).mono ?_; rintro e wk ⟨rfl, hbk⟩)
            | (go_at_call 26; go_split_ands; with_reducible refine (H4.out _).mono ?_; rintro e wk ⟨rfl, hbk⟩)
            | (go_at_call 26; go_split_ands; with_reducible refine (HC5.out _ (by assumption)).mono ?_; rintro e wk ⟨rfl, hbk⟩)
            | (go_at_call 26; go_split_ands; with_reducible refine (HC6.out _ (by assumption)).mono ?_; rintro e wk ⟨rfl, hbk⟩)
            | (go_at_call 23; go_split_ands; refine (HW.out _ (by assumption)).mono ?_; rintro e wk ⟨rfl, hbk⟩)))
        go_wp2
        go_ret
        exact ⟨rfl, gl_to_below (gl_step (gl_below hbk (by assumption)) hgr (by simp))⟩
  · skip
    have b1 : decide (300 < z1) = true := by simp; omega
    go_wp2_with fail
    go_ret
    exact ⟨rfl, gl_to_below hg2⟩

set_option maxRecDepth 100000 in
set_option maxHeartbeats 4000000 in
theorem lLockMakesX (t : List UInt8) (n : Int) (m : Nat) (h : 40 < m ∨ 5000 < t.length) (ad : Option Addr) (c : Nat) (w : World) :
    Calls Tryz.prog 8 #[.string (bs t), .int .i64 n, .slice ad m c] w fun e w' => e = .returned (.bool true) ∧ Below w.heap.size w w' := by
  by_cases h1 : 40 < m
  · have b1 : decide (40 < (m : Int)) = true := by simp; omega
    go_enter Tryz.func8, Tryz.ntmps8
    go_wp2
    go_ret
    exact ⟨rfl, Below.refl _ _⟩
  · have b1 : decide (40 < (m : Int)) = false := by simp; omega
    have b2 : decide (5000 < (t.length : Int)) = true := by simp; omega
    go_enter Tryz.func8, Tryz.ntmps8
    go_wp2
    go_ret
    exact ⟨rfl, Below.refl _ _⟩
theorem lLockMakes (t : List UInt8) (n : Int) (hn : -9223372036854775808 ≤ n ∧ n ≤ 9223372036854775807) (kids : List LT) (ad : Option Addr) (c : Nat) (w : World) (hK : LockIn (fun _ => True) w (.mk 0 [] 0 kids) (.agg #[.int .u8 0, .string (bs []), .int .i64 0, .slice ad kids.length c])) (hG : GOk w) :
    Calls Tryz.prog 8 #[.string (bs t), .int .i64 n, .slice ad kids.length c] w fun e w' => e = .returned (.bool true) ∧ Below w.heap.size w w' := by
  by_cases h : 40 < kids.length ∨ 5000 < t.length
  · exact lLockMakesX t n kids.length h ad c w
  · by_cases h0 : kids.length = 0
    · obtain rfl := List.eq_nil_of_length_eq_zero h0
      cases ad with
      | none => exact lLockMakesA t (by omega) n hn.1 hn.2 c w hK hG
      | some a => exact lLockMakesB t (by omega) n hn.1 hn.2 a c w hK hG
    · obtain ⟨b, o, rfl⟩ := lock_addr (by omega) hK
      exact lLockMakesC t (by omega) n hn.1 hn.2 kids (by omega) (by omega) b o c w hK hG
end Go.Proofs.YtfmckibiblhakaaGreatDoor
