/- Locks put together: All, Any, slices.Clone, at every row of locks. -/
import Derived.Test.YtfmckibiblhakaaGreatDoorLawL
set_option linter.unusedSimpArgs false
set_option linter.unusedVariables false
namespace Go.Proofs.YtfmckibiblhakaaGreatDoor
open Go.RowKit

set_option maxRecDepth 100000 in
set_option maxHeartbeats 1000000 in
theorem lkClone0 (w : World) : Calls Tryz.prog 86 #[.slice none 0 0] w fun e w' => e = .returned (.slice none 0 0) ∧ Below w.heap.size w w' := by
  have hsn : ∀ w : World, (binOp .eql 23 (.slice none 0 0) (.slice none 0 0)).run Tryz.prog w = .ok (.bool true) w := fun _ => by kernel_rfl
  go_enter Tryz.func86, Tryz.ntmps86
  go_wp2
  go_ret
  exact ⟨rfl, Below.refl _ _⟩
theorem rowIn_glW {q : Nat → Prop} {w w' : World} (hg : GL [] w w') : ∀ (l : List LT) (b o : Nat), b < w.heap.size → RowIn q w l b o → RowIn q w' l b o
  | [], _, _, _, _ => by unfold RowIn; trivial
  | x :: r, b, o, hb, h => by
    unfold RowIn at h ⊢
    obtain ⟨⟨c0, c1, c2, c3, hx, g0, g1, g2, g3⟩, hr⟩ := h
    have hc : ∀ j, w'.cell? ⟨b, j, none⟩ = w.cell? ⟨b, j, none⟩ := fun j => by simp only [World.cell?, hg.block b hb (by simp)]
    exact ⟨⟨c0, c1, c2, c3, lockIn_gl hg x _ hx, by rw [hc]; exact g0, by rw [hc]; exact g1, by rw [hc]; exact g2, by rw [hc]; exact g3⟩, rowIn_glW hg r b (o + 4) hb hr⟩

set_option maxRecDepth 100000 in
set_option maxHeartbeats 1000000 in
theorem lkAll0 (w : World) : Calls Tryz.prog 31 #[.slice none 0 0] w fun e w' => e = .returned (.agg #[.int .u8 5, .string (bs []), .int .i64 0, .slice none 0 0]) ∧ Below w.heap.size w w' := by
  have hc := lkClone0
  go_enter Tryz.func31, Tryz.ntmps31
  go_wp2_with fail
  refine (hc _).mono ?_
  rintro e w1 ⟨rfl, hb1⟩
  have g1 := blk_below (blk_new w (.cells #[.int .u8 0, .string (bs []), .int .i64 0, .slice none 0 0] 25)) hb1 (by simp)
  have f1 := blk_cell g1
  have e1 := blk_free g1
  have l1 := blk_lt g1
  clear g1
  go_wp2_with fail
  refine bodyPost_ret (v := .agg #[.int .u8 5, .string (bs []), .int .i64 0, .slice none 0 0]) (by simp [results, Tryz.results31, go_sem, f1, e1]) rfl ⟨rfl, ?_⟩
  (repeat' (first | with_reducible exact Below.refl _ _ | with_reducible assumption | with_reducible refine below_alloc ?_ ?_ _ | with_reducible refine Below.setCell ?_ ?_ _ | with_reducible refine Below.drew ?_ | with_reducible refine below_drewN ?_ _ | with_reducible refine below_step (by assumption) ?_ ?_ | (with_reducible refine Below.trans ?_ (Below.mono (by assumption) ?_)) | exact Nat.le_refl _ | (simp; done) | (simp; omega) | omega))

set_option maxRecDepth 100000 in
set_option maxHeartbeats 1000000 in
theorem lkAny0 (w : World) : Calls Tryz.prog 32 #[.slice none 0 0] w fun e w' => e = .returned (.agg #[.int .u8 6, .string (bs []), .int .i64 0, .slice none 0 0]) ∧ Below w.heap.size w w' := by
  have hc := lkClone0
  go_enter Tryz.func32, Tryz.ntmps32
  go_wp2_with fail
  refine (hc _).mono ?_
  rintro e w1 ⟨rfl, hb1⟩
  have g1 := blk_below (blk_new w (.cells #[.int .u8 0, .string (bs []), .int .i64 0, .slice none 0 0] 25)) hb1 (by simp)
  have f1 := blk_cell g1
  have e1 := blk_free g1
  have l1 := blk_lt g1
  clear g1
  go_wp2_with fail
  refine bodyPost_ret (v := .agg #[.int .u8 6, .string (bs []), .int .i64 0, .slice none 0 0]) (by simp [results, Tryz.results32, go_sem, f1, e1]) rfl ⟨rfl, ?_⟩
  (repeat' (first | with_reducible exact Below.refl _ _ | with_reducible assumption | with_reducible refine below_alloc ?_ ?_ _ | with_reducible refine Below.setCell ?_ ?_ _ | with_reducible refine Below.drew ?_ | with_reducible refine below_drewN ?_ _ | with_reducible refine below_step (by assumption) ?_ ?_ | (with_reducible refine Below.trans ?_ (Below.mono (by assumption) ?_)) | exact Nat.le_refl _ | (simp; done) | (simp; omega) | omega))

set_option maxRecDepth 100000 in
set_option maxHeartbeats 2000000 in
theorem lkCloneF (kids : List LT) (b o c : Nat) (q : Nat → Prop) (hm : 0 < kids.length) (hk : kids.length ≤ 1000) (w : World) (hb : b < w.heap.size) (hr : RowIn q w kids b o) :
    Calls Tryz.prog 86 #[.slice (some ⟨b, o, none⟩) kids.length c] w fun e w' => Below w.heap.size w w' ∧ ∃ g cap, e = .returned (.slice (some ⟨g, 0, none⟩) kids.length cap) ∧ w.heap.size ≤ g ∧ g < w'.heap.size ∧ RowIn q w' kids g 0 := by
  obtain ⟨cs, hv, hcs⟩ := rowIn_v kids o hr
  have hlen := rowV_len kids cs hv
  have hone := rowV_one kids cs hv
  obtain ⟨i0, hi0, hi1, hi2, hi3⟩ := info_parts Tryz.infoLock
  have HV := Lib.hid hv
  have HC := Lib.hid hcs
  have HO := Lib.hid hone
  clear hr hv hcs hone
  have hsn : ∀ (b o n c : Nat) (w : World), (binOp .eql 23 (.slice (some ⟨b, o, none⟩) n c) (.slice none 0 0)).run Tryz.prog w = .ok (.bool false) w := fun _ _ _ _ _ => by kernel_rfl
  go_enter Tryz.func86, Tryz.ntmps86
  go_wp2_with (at_builtin; go_must (refine wpList_append_own _ rfl _ _ 23 rfl w.heap.size 25 i0 (.agg #[.int .u8 0, .string ByteArray.empty, .int .i64 0, .slice none 0 0]) 4 56 Tryz.underlying23 hi0 hi1 hi2 hi3 rfl (by decide) _ 0 [] rfl ?own ⟨b, o, none⟩ kids.length c cs rfl hlen ?c1 HO.out ?c3 ?c4 ?c5 ?_; (case own => (refine ⟨rfl, .inr ⟨w.heap.size, 0, #[], rfl, Nat.le_refl _, ?_, Nat.le_refl _, by decide, rfl, rfl⟩⟩; exact blk_new _ _)); (case c1 => (intro j u hj; rw [Addr.add_lit]; have := HC.out j u hj; exact kcell_alloc this _)); (case c3 => (unfold maxLen; omega)); (case c4 => omega); (case c5 => (simp)); (intro v' w4 hown4 hgr4 _); (obtain ⟨ad4, n4, cp4, hv4⟩ := own_slice hown4); (subst hv4)))
  go_wp2
  go_ret
  have hgl : GL [] w w4 := gl_grown hgr4 (gl_alloc (gl_refl _ _) _) (fun r hr => by
    have hr2 : (Value.slice (some ⟨w.heap.size, 0, none⟩) 0 0).ownBlock = some r := hr
    right; simp [Value.ownBlock] at hr2; omega)
  have hbl := gl_to_below hgl
  refine ⟨hbl, ?_⟩
  rw [List.nil_append, Nat.zero_add] at hown4
  obtain ⟨g, cap, e, h1, h2, h3⟩ := own_row hown4 hm rfl (rowV_stay (stay_below hbl) (fun _ _ h => h) kids cs HV.out)
  exact ⟨g, cap, by rw [← e]; rfl, h1, h2, h3⟩


set_option maxRecDepth 100000 in
set_option maxHeartbeats 2000000 in
theorem lkAllF (kids : List LT) (b o c : Nat) (q : Nat → Prop) (hm : 0 < kids.length) (hk : kids.length ≤ 1000) (w : World) (hb : b < w.heap.size) (hr : RowIn q w kids b o) :
    Calls Tryz.prog 31 #[.slice (some ⟨b, o, none⟩) kids.length c] w fun e w' => Below w.heap.size w w' ∧ ∃ v, e = .returned v ∧ LockIn (fun b => q b ∨ w.heap.size ≤ b) w' (.mk 5 [] 0 kids) v := by
  have hc := fun (W : World) (hgw : GL [] w W) => lkCloneF kids b o c (fun b => q b ∧ b < w.heap.size) hm hk W (Nat.lt_of_lt_of_le hb hgw.size) (rowIn_glW hgw kids b o hb (rowIn_mono (fun b hb h => ⟨h, hb⟩) kids b o hr))
  have HC := Lib.hid hc
  clear hc hr
  go_enter Tryz.func31, Tryz.ntmps31
  go_wp2_with fail
  refine (HC.out _ (by (repeat' (first | with_reducible exact gl_refl _ _ | with_reducible assumption | with_reducible refine gl_alloc ?_ _ | with_reducible refine gl_drewN ?_ _ | with_reducible refine gl_drew ?_ | (with_reducible refine gl_setn ?_ ?_ _; · (first | exact Nat.le_refl _ | (simp; done) | (simp; omega) | omega)) | (with_reducible refine gl_seti ?_ ?_ _; · (simp; done)) | with_reducible refine gl_below (by with_reducible assumption) ?_ | with_reducible refine gl_step (by with_reducible assumption) ?_ (by first | (simp; done) | (simp; omega)) | with_reducible refine gl_grown (by with_reducible assumption) ?_ (by first | (simp; done) | (simp; omega)))))).mono ?_
  rintro e w1 ⟨hb1, g, cap, rfl, h1, h2, h3⟩
  have g1 := blk_below (blk_new w (.cells #[.int .u8 0, .string (bs []), .int .i64 0, .slice none 0 0] 25)) hb1 (by simp)
  have f1 := blk_cell g1
  have e1 := blk_free g1
  have l1 := blk_lt g1
  clear g1
  have H3 := Lib.hid h3
  clear h3
  simp at h1
  go_wp2_with fail
  refine bodyPost_ret (v := .agg #[.int .u8 5, .string (bs []), .int .i64 0, .slice (some ⟨g, 0, none⟩) kids.length cap]) (by simp [results, Tryz.results31, go_sem, f1, e1]) rfl ⟨?_, _, rfl, ?_⟩
  · (repeat' (first | with_reducible exact Below.refl _ _ | with_reducible assumption | with_reducible refine below_alloc ?_ ?_ _ | with_reducible refine Below.setCell ?_ ?_ _ | with_reducible refine Below.drew ?_ | with_reducible refine below_drewN ?_ _ | with_reducible refine below_step (by assumption) ?_ ?_ | (with_reducible refine Below.trans ?_ (Below.mono (by assumption) ?_)) | exact Nat.le_refl _ | (simp; done) | (simp; omega) | omega))
  · unfold LockIn
    refine ⟨by omega, by omega, by simp, by omega, _, rfl, .inr ⟨g, 0, cap, rfl, by simp; omega, .inr (by omega), ?_⟩⟩
    refine rowIn_stay (p := fun b => b ≠ w.heap.size ∧ (q b ∨ w.heap.size ≤ b)) (w := w1) ⟨by simp, fun b hb hp => ?_⟩ (fun b _ h => h.2) kids g 0 h2 ⟨by omega, .inr (by omega)⟩ (rowIn_mono (fun b hb h => ⟨by omega, .inl h.1⟩) kids g 0 H3.out)
    repeat (rw [Below.heap_setCell _ _ _ _ (by simpa using hp.1)])


set_option maxRecDepth 100000 in
set_option maxHeartbeats 2000000 in
theorem lkAnyF (kids : List LT) (b o c : Nat) (q : Nat → Prop) (hm : 0 < kids.length) (hk : kids.length ≤ 1000) (w : World) (hb : b < w.heap.size) (hr : RowIn q w kids b o) :
    Calls Tryz.prog 32 #[.slice (some ⟨b, o, none⟩) kids.length c] w fun e w' => Below w.heap.size w w' ∧ ∃ v, e = .returned v ∧ LockIn (fun b => q b ∨ w.heap.size ≤ b) w' (.mk 6 [] 0 kids) v := by
  have hc := fun (W : World) (hgw : GL [] w W) => lkCloneF kids b o c (fun b => q b ∧ b < w.heap.size) hm hk W (Nat.lt_of_lt_of_le hb hgw.size) (rowIn_glW hgw kids b o hb (rowIn_mono (fun b hb h => ⟨h, hb⟩) kids b o hr))
  have HC := Lib.hid hc
  clear hc hr
  go_enter Tryz.func32, Tryz.ntmps32
  go_wp2_with fail
  refine (HC.out _ (by (repeat' (first | with_reducible exact gl_refl _ _ | with_reducible assumption | with_reducible refine gl_alloc ?_ _ | with_reducible refine gl_drewN ?_ _ | with_reducible refine gl_drew ?_ | (with_reducible refine gl_setn ?_ ?_ _; · (first | exact Nat.le_refl _ | (simp; done) | (simp; omega) | omega)) | (with_reducible refine gl_seti ?_ ?_ _; · (simp; done)) | with_reducible refine gl_below (by with_reducible assumption) ?_ | with_reducible refine gl_step (by with_reducible assumption) ?_ (by first | (simp; done) | (simp; omega)) | with_reducible refine gl_grown (by with_reducible assumption) ?_ (by first | (simp; done) | (simp; omega)))))).mono ?_
  rintro e w1 ⟨hb1, g, cap, rfl, h1, h2, h3⟩
  have g1 := blk_below (blk_new w (.cells #[.int .u8 0, .string (bs []), .int .i64 0, .slice none 0 0] 25)) hb1 (by simp)
  have f1 := blk_cell g1
  have e1 := blk_free g1
  have l1 := blk_lt g1
  clear g1
  have H3 := Lib.hid h3
  clear h3
  simp at h1
  go_wp2_with fail
  refine bodyPost_ret (v := .agg #[.int .u8 6, .string (bs []), .int .i64 0, .slice (some ⟨g, 0, none⟩) kids.length cap]) (by simp [results, Tryz.results32, go_sem, f1, e1]) rfl ⟨?_, _, rfl, ?_⟩
  · (repeat' (first | with_reducible exact Below.refl _ _ | with_reducible assumption | with_reducible refine below_alloc ?_ ?_ _ | with_reducible refine Below.setCell ?_ ?_ _ | with_reducible refine Below.drew ?_ | with_reducible refine below_drewN ?_ _ | with_reducible refine below_step (by assumption) ?_ ?_ | (with_reducible refine Below.trans ?_ (Below.mono (by assumption) ?_)) | exact Nat.le_refl _ | (simp; done) | (simp; omega) | omega))
  · unfold LockIn
    refine ⟨by omega, by omega, by simp, by omega, _, rfl, .inr ⟨g, 0, cap, rfl, by simp; omega, .inr (by omega), ?_⟩⟩
    refine rowIn_stay (p := fun b => b ≠ w.heap.size ∧ (q b ∨ w.heap.size ≤ b)) (w := w1) ⟨by simp, fun b hb hp => ?_⟩ (fun b _ h => h.2) kids g 0 h2 ⟨by omega, .inr (by omega)⟩ (rowIn_mono (fun b hb h => ⟨by omega, .inl h.1⟩) kids g 0 H3.out)
    repeat (rw [Below.heap_setCell _ _ _ _ (by simpa using hp.1)])


end Go.Proofs.YtfmckibiblhakaaGreatDoor
