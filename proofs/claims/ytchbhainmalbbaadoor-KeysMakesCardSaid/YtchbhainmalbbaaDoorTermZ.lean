/- The program makes terms: texts, names, what is put together. -/
import Derived.Test.YtchbhainmalbbaaDoorTermY
import Derived.Test.YtchbhainmalbbaaDoorRefK
import Derived.Lib.AppendIntMem
namespace Go.Proofs.YtchbhainmalbbaaDoor
open Go.RowKit

theorem isB_below {B b : Nat} {l : List UInt8} {w w' : World} (h : IsB B b l w) (hb : Below w.heap.size w w') : IsB B b l w' := by
  have hg : w.grownBy w' none := ⟨hb.os, hb.tape, hb.output, hb.size, fun k hk _ => hb.block k hk⟩
  have hn : ∀ v : Value, v.ownBlock = none ∨ v.ownBlock ≠ none := fun v => by
    cases v.ownBlock with
    | none => exact .inl rfl
    | some x => exact .inr (by simp)
  rcases h with ⟨hB, v, h1, h2, h3⟩ | ⟨hB, v, h1, h2, h3⟩
  · exact .inl ⟨hB, v, blk_below h1 hb (blk_lt h1), h2.kept hg (hn v), h3⟩
  · exact .inr ⟨hB, v, blk_below h1 hb (blk_lt h1), h2.kept hg (hn v), h3⟩
theorem isB_new (w : World) : IsB w.heap.size w.heap.size [] (w.alloc (.cells #[.pointer none, .slice none 0 0] 132)) :=
  .inl ⟨Nat.le_refl _, .slice none 0 0, blk_new _ _, ⟨rfl, .inl ⟨rfl, rfl⟩⟩, by simp [Value.ownBlock]⟩

theorem tItoa (n : Int) (h0 : 0 ≤ n) (h1 : n ≤ 9223372036854775807) (w : World) (hG : GOk w) :
    Calls Tryd.prog 93 #[.int .i64 n] w fun e w' => e = .returned (.string (bs (Lib.decDigits n.toNat))) ∧ Below w.heap.size w w' := by
  refine (Tryd.strconv_Itoa n (by omega) h1 w hG.pow).mono fun e w' ⟨he, k, os, hw⟩ => ⟨?_, ?_⟩
  · rw [he, Lib.itoa, if_neg (by omega)]; rfl
  · rw [hw]; exact Lib.below_grow _ _ (Nat.le_refl _) _ _
theorem tFormatInt (n : Int) (h0 : 0 ≤ n) (h1 : n ≤ 9223372036854775807) (w : World) (hG : GOk w) :
    Calls Tryd.prog 70 #[.int .i64 n, .int .i64 10] w fun e w' => e = .returned (.string (bs (Lib.decDigits n.toNat))) ∧ Below w.heap.size w w' := by
  refine (Tryd.strconv_FormatInt_10 n (by omega) h1 w hG.pow).mono fun e w' ⟨he, k, os, hw⟩ => ⟨?_, ?_⟩
  · rw [he, Lib.itoa, if_neg (by omega)]; rfl
  · rw [hw]; exact Lib.below_grow _ _ (Nat.le_refl _) _ _

set_option maxRecDepth 100000 in
set_option maxHeartbeats 1000000 in
theorem tMkText (l : List UInt8) (hl : l.length ≤ 9000000000000000000) (w : World) (hG : GOk w) :
    Calls Tryd.prog 77 #[.string (bs l)] w fun e w' => e = .returned (.tuple #[.string (bs (textT l).1), .int .i64 (textT l).2]) ∧ Below w.heap.size w w' := by
  by_cases h : 4096 < l.length
  · have H : Hid (textT l = ([], 3)) := by show textT l = _; simp [textT, h]
    go_enter Tryd.func77, Tryd.ntmps77
    go_wp2_with fail
    go_ret2
    exact ⟨by rw [H.out]; rfl, by (repeat' (first | with_reducible exact Below.refl _ _ | with_reducible assumption | with_reducible refine below_alloc ?_ ?_ _ | with_reducible refine Below.setCell ?_ ?_ _ | with_reducible refine Below.drew ?_ | with_reducible refine below_drewN ?_ _ | with_reducible refine below_step (by assumption) ?_ ?_ | (with_reducible refine Below.trans ?_ (Below.mono (by assumption) ?_)) | exact Nat.le_refl _ | (simp; done) | (simp; omega) | omega))⟩
  · have H : Hid (textT l = (116 :: (Lib.decDigits l.length ++ 58 :: l), 0)) := by show textT l = _; simp [textT, h]
    have hd := dec_len20 l.length (by omega)
    go_enter Tryd.func77, Tryd.ntmps77
    go_wp2_with (go_at_call 93; refine (tItoa _ (by omega) (by omega) _ hG).mono ?_; rintro e w1 ⟨rfl, hb1⟩; rw [Int.toNat_natCast])
    go_ret2
    refine ⟨?_, by (repeat' (first | with_reducible exact Below.refl _ _ | with_reducible assumption | with_reducible refine below_alloc ?_ ?_ _ | with_reducible refine Below.setCell ?_ ?_ _ | with_reducible refine Below.drew ?_ | with_reducible refine below_drewN ?_ _ | with_reducible refine below_step (by assumption) ?_ ?_ | (with_reducible refine Below.trans ?_ (Below.mono (by assumption) ?_)) | exact Nat.le_refl _ | (simp; done) | (simp; omega) | omega))⟩
    rw [H.out]
    simp

set_option maxRecDepth 100000 in
set_option maxHeartbeats 1000000 in
theorem tMkName (n : Int) (h0 : -9223372036854775808 ≤ n) (h1 : n ≤ 9223372036854775807) (w : World) (hG : GOk w) :
    Calls Tryd.prog 40 #[.int .i64 n] w fun e w' => e = .returned (.tuple #[.string (bs (nameT n).1), .int .i64 (nameT n).2]) ∧ Below w.heap.size w w' := by
  by_cases h : n < 0
  · have H : Hid (nameT n = ([], 2)) := by show nameT n = _; simp [nameT, h]
    go_enter Tryd.func40, Tryd.ntmps40
    go_wp2_with fail
    go_ret2
    exact ⟨by rw [H.out]; rfl, by (repeat' (first | with_reducible exact Below.refl _ _ | with_reducible assumption | with_reducible refine below_alloc ?_ ?_ _ | with_reducible refine Below.setCell ?_ ?_ _ | with_reducible refine Below.drew ?_ | with_reducible refine below_drewN ?_ _ | with_reducible refine below_step (by assumption) ?_ ?_ | (with_reducible refine Below.trans ?_ (Below.mono (by assumption) ?_)) | exact Nat.le_refl _ | (simp; done) | (simp; omega) | omega))⟩
  · have H : Hid (nameT n = (110 :: (Lib.decDigits n.toNat ++ [59]), 0)) := by show nameT n = _; simp [nameT, h]
    have hd := dec_len20 n.toNat (by omega)
    go_enter Tryd.func40, Tryd.ntmps40
    go_wp2_with (go_at_call 70; refine (tFormatInt _ (by omega) (by omega) _ hG).mono ?_; rintro e w1 ⟨rfl, hb1⟩)
    go_ret2
    refine ⟨?_, by (repeat' (first | with_reducible exact Below.refl _ _ | with_reducible assumption | with_reducible refine below_alloc ?_ ?_ _ | with_reducible refine Below.setCell ?_ ?_ _ | with_reducible refine Below.drew ?_ | with_reducible refine below_drewN ?_ _ | with_reducible refine below_step (by assumption) ?_ ?_ | (with_reducible refine Below.trans ?_ (Below.mono (by assumption) ?_)) | exact Nat.le_refl _ | (simp; done) | (simp; omega) | omega))⟩
    rw [H.out]
    simp

set_option maxRecDepth 100000 in
set_option maxHeartbeats 1000000 in
theorem tWhole (l : List UInt8) (hl : l.length ≤ 9000000000000000000) (w : World) (hG : GOk w) :
    Calls Tryd.prog 65 #[.string (bs l)] w fun e w' => e = .returned (.tuple #[.string (bs (made l).1), .int .i64 (made l).2]) ∧ Below w.heap.size w w' := by
  cases h : right l with
  | true =>
    have H : Hid (made l = (l, 0)) := by show made l = _; simp [made, h]
    have HR := Lib.hid h
    clear h
    go_enter Tryd.func65, Tryd.ntmps65
    go_wp2_with (go_at_call 64; refine (tRight l hl _ hG).mono ?_; rintro e w1 ⟨rfl, hb1⟩; rw [HR.out])
    go_ret2
    exact ⟨by rw [H.out]; rfl, by (repeat' (first | with_reducible exact Below.refl _ _ | with_reducible assumption | with_reducible refine below_alloc ?_ ?_ _ | with_reducible refine Below.setCell ?_ ?_ _ | with_reducible refine Below.drew ?_ | with_reducible refine below_drewN ?_ _ | with_reducible refine below_step (by assumption) ?_ ?_ | (with_reducible refine Below.trans ?_ (Below.mono (by assumption) ?_)) | exact Nat.le_refl _ | (simp; done) | (simp; omega) | omega))⟩
  | false =>
    have H : Hid (made l = ([], 3)) := by show made l = _; simp [made, h]
    have HR := Lib.hid h
    clear h
    go_enter Tryd.func65, Tryd.ntmps65
    go_wp2_with (go_at_call 64; refine (tRight l hl _ hG).mono ?_; rintro e w1 ⟨rfl, hb1⟩; rw [HR.out])
    go_ret2
    exact ⟨by rw [H.out]; rfl, by (repeat' (first | with_reducible exact Below.refl _ _ | with_reducible assumption | with_reducible refine below_alloc ?_ ?_ _ | with_reducible refine Below.setCell ?_ ?_ _ | with_reducible refine Below.drew ?_ | with_reducible refine below_drewN ?_ _ | with_reducible refine below_step (by assumption) ?_ ?_ | (with_reducible refine Below.trans ?_ (Below.mono (by assumption) ?_)) | exact Nat.le_refl _ | (simp; done) | (simp; omega) | omega))⟩

def buildT (hd : List UInt8) (ls : List (List UInt8)) : List UInt8 × Int := if ls.all right = true then made (hd ++ cat ls) else ([], 10)

set_option maxRecDepth 100000 in
set_option maxHeartbeats 2000000 in
theorem tBuild (hd : List UInt8) (ls : List (List UInt8)) (g cap : Nat) (hhd : hd.length ≤ 100) (hls : ∀ x ∈ ls, x.length ≤ 9000000000000000000) (hn : ls.length ≤ 32) (w : World) (hg : g < w.heap.size)
    (hc : ∀ j x, ls[j]? = some x → w.cell? ⟨g, j, none⟩ = some (.string (bs x))) (hG : GOk w) :
    Calls Tryd.prog 84 #[.string (bs hd), .slice (some ⟨g, 0, none⟩) ls.length cap] w fun e w' => e = .returned (.tuple #[.string (bs (buildT hd ls).1), .int .i64 (buildT hd ls).2]) ∧ Below w.heap.size w w' := by
  have HC := Lib.hid hc
  clear hc
  have HB0 := Lib.hid (isB_new w)
  have HG := Lib.hid hG
  clear hG
  go_enter Tryd.func84, Tryd.ntmps84
  go_wp2_with (go_at_call 107; refine (tWriteString _ _ _ _ _ HB0.out (by simp; omega) (by simp)).mono ?_; rintro e w1 ⟨rfl, hB1, hb1⟩; rw [List.nil_append] at hB1)
  go_loopw [13] (fun iv wr => ∃ k : Nat, k ≤ ls.length ∧ iv = .int .i64 k ∧ Hid ((ls.take k).all right = true) ∧ Hid (IsB w.heap.size w.heap.size (hd ++ cat (ls.take k)) wr) ∧ Below w.heap.size w wr) (fun iv _ => ls.length - (intOf iv).toNat)
  case atStart => exact ⟨0, by omega, rfl, rfl, (by show IsB _ _ _ _; simpa [cat] using hB1), ((Below.refl _ _).alloc (Nat.le_refl _) _).trans hb1⟩
  case round =>
    obtain ⟨k, hk, rfl, hall, hB2, hbel⟩ := hrel
    have hfl := flat_len _ hall.out
    have hfl2 : (cat (ls.take k)).length ≤ 600000 := by rw [List.length_take] at hfl; omega
    clear hfl
    have hGr := Lib.hid (gok_below HG.out hbel)
    have hsz := hbel.size
    by_cases hlt : k < ls.length
    · obtain ⟨x, hx⟩ : ∃ x, ls[k]? = some x := ⟨ls[k], by simp [hlt]⟩
      have hxl := hls x (List.mem_of_getElem? hx)
      have c0 := (hbel.cell (p := ⟨g, k, none⟩) hg).trans (HC.out k x hx)
      have HX := Lib.hid hx
      clear hx
      cases hr : right x with
      | false =>
        have HR := Lib.hid hr
        clear hr
        go_wp2_with (go_at_call 64; refine (tRight x hxl _ hGr.out).mono ?_; rintro e w2 ⟨rfl, hb2⟩; rw [HR.out])
        go_ret2
        exact ⟨by rw [show buildT hd ls = ([], 10) by simp [buildT, not_all ls k x HX.out HR.out]]; rfl, by (repeat' (first | with_reducible exact Below.refl _ _ | with_reducible assumption | with_reducible refine below_alloc ?_ ?_ _ | with_reducible refine Below.setCell ?_ ?_ _ | with_reducible refine Below.drew ?_ | with_reducible refine below_drewN ?_ _ | with_reducible refine below_step (by assumption) ?_ ?_ | (with_reducible refine Below.trans ?_ (Below.mono (by assumption) ?_)) | exact Nat.le_refl _ | (simp; done) | (simp; omega) | omega))⟩
      | true =>
        have hxr := right_len hr
        have HR := Lib.hid hr
        clear hr
        go_wp2_with (first | (go_at_call 64; refine (tRight x hxl _ hGr.out).mono ?_; rintro e w2 ⟨rfl, hb2⟩; rw [HR.out]; have hB3 := Lib.hid (isB_below hB2.out hb2); have hsz2 := hb2.size) | (go_at_call 107; refine (tWriteString _ _ _ _ _ hB3.out (by simp; omega) (by omega)).mono ?_; rintro e w3 ⟨rfl, hB4, hb3⟩))
        go_roundw
        case rel =>
          refine ⟨k + 1, by omega, by go_num, take_all ls k x HX.out hall.out HR.out, ?_, ?_⟩
          · rw [take_flat ls k x HX.out, ← List.append_assoc]; exact hB4
          · have h2 : Below w.heap.size w w2 := by (repeat' (first | with_reducible exact Below.refl _ _ | with_reducible assumption | with_reducible refine below_alloc ?_ ?_ _ | with_reducible refine Below.setCell ?_ ?_ _ | with_reducible refine Below.drew ?_ | with_reducible refine below_drewN ?_ _ | with_reducible refine below_step (by assumption) ?_ ?_ | (with_reducible refine Below.trans ?_ (Below.mono (by assumption) ?_)) | exact Nat.le_refl _ | (simp; done) | (simp; omega) | omega))
            exact h2.trans hb3
        case measure => (show ls.length - ((k : Int) + 1).toNat < ls.length - (k : Int).toNat); omega
    · obtain rfl : k = ls.length := by omega
      have H : Hid (buildT hd ls = made (hd ++ cat ls)) := by
        show buildT hd ls = _
        have := hall.out
        rw [List.take_length] at this
        simp [buildT, this]
      rw [List.take_length] at hfl2 hB2
      go_wp2_with (first | (go_at_call 108; refine (Tryd.Builder_String_any_k _ _ _ _ hB2.out (by omega)).mono ?_; rintro e w2 ⟨rfl, _, hb2, _⟩; have h2 : Below w.heap.size w w2 := hbel.trans hb2; have hG2 := Lib.hid (gok_below HG.out h2); rw [bs_mk]) | (go_at_call 65; refine (tWhole _ (by simp; omega) _ hG2.out).mono ?_; rintro e w3 ⟨rfl, hb3⟩))
      go_ret2
      exact ⟨by rw [H.out]; rfl, by (repeat' (first | with_reducible exact Below.refl _ _ | with_reducible assumption | with_reducible refine below_alloc ?_ ?_ _ | with_reducible refine Below.setCell ?_ ?_ _ | with_reducible refine Below.drew ?_ | with_reducible refine below_drewN ?_ _ | with_reducible refine below_step (by assumption) ?_ ?_ | (with_reducible refine Below.trans ?_ (Below.mono (by assumption) ?_)) | exact Nat.le_refl _ | (simp; done) | (simp; omega) | omega))⟩
end Go.Proofs.YtchbhainmalbbaaDoor
