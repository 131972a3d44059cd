/- The program's bech: the head of a check. -/
import Derived.Test.YtembdkodajichaaGreatDoorBechA
import Derived.Test.YtembdkodajichaaGreatDoorAppB
set_option maxRecDepth 100000
set_option maxHeartbeats 4000000
set_option linter.unusedSimpArgs false
set_option linter.unusedVariables false
namespace Go.Proofs.YtembdkodajichaaGreatDoor
open Go.RowKit
theorem inAt_one (w : World) (x : UInt8) (X : Int) (hX : X = x.toNat) (T : TypeId) : InAt (.slice (some ⟨w.heap.size, 0, none⟩) 1 1) [x] (w.alloc (.cells #[.int .u8 X] T)) := by
 subst hX
 refine ⟨w.heap.size, 0, 1, .inr ⟨by simp, by simp⟩, by simp, fun _ => ⟨by simp, fun j hj => ?_⟩⟩
 obtain rfl : j = 0 := by simp at hj; omega
 exact blk_cell (blk_new w _) 0
theorem bAdd1 (B s : Nat) (x : UInt8) (X : Int) (hX : X = x.toNat) (w : World) (hB : w.heap[B]? = some (.cells #[.int .u32 (s : Int)] 122 (0, 0))) (hs : s < 2 ^ 30) :
  Calls Tryz.prog 84 #[.pointer (some ⟨B, 0, none⟩), .slice (some ⟨w.heap.size, 0, none⟩) 1 1] (w.alloc (.cells #[.int .u8 X] 5)) fun e w' => e = .returned (.tuple #[]) ∧ w'.heap[B]? = some (.cells #[.int .u32 (poly s [x] : Nat)] 122 (0, 0)) ∧ GL [B] w w' := by
 refine (bAdd B s [x] (.slice (some ⟨w.heap.size, 0, none⟩) 1 1) _ (blk_alloc hB _) hs si_ (inAt_one w x X hX _) (fun G o c e _ => ?_)).mono ?_
 · have := blk_lt hB
   injection e with e1
   injection e1 with e1
   injection e1 with e1
   omega
 · rintro e w' ⟨rfl, h1, h2⟩
   exact ⟨rfl, h1, gl_step h2 (gl_alloc (gl_refl _ _) _) si_⟩
theorem and31 (x : Nat) (hx : x < 256) : bits .and .u8 (x : Int) 31 = ((x % 32 : Nat) : Int) := by
 show IntKind.u8.wrap (((BitVec.ofInt 8 (x : Int) &&& BitVec.ofInt 8 31).toNat : Nat) : Int) = _
 have h2 : (BitVec.ofInt 8 31).toNat = 2 ^ 5 - 1 := by decide
 rw [BitVec.toNat_and, h2, BitVec.ofInt_natCast, BitVec.toNat_ofNat, Nat.mod_eq_of_lt om_, Nat.and_two_pow_sub_one_eq_mod, IntKind.wrap_u8]
 omega
theorem index_str (w : World) (l : List UInt8) (i : Nat) (hi : i < l.length) : (Instr.index 9 (.string (bs l)) (.int .i64 (i : Int))).run Tryz.prog w = .ok (.int .u8 ((l.getD i 0).toNat : Nat)) w := by
 have h2 : (0 : Int) ≤ (i : Int) ∧ (i : Int) < l.length := by omega
 have h3 : l.getD i 0 = l[i] := by rw [List.getD_eq_getElem?_getD, List.getElem?_eq_getElem hi]; rfl
 simp [Instr.index, asIntOf, h2, hi, h3]
theorem map_take_snoc {f : UInt8 → UInt8} (h : List UInt8) (k : Nat) (hk : k < h.length) : (h.take (k + 1)).map f = (h.take k).map f ++ [f (h.getD k 0)] := by
 rw [List.take_add_one, List.getElem?_eq_getElem hk, Option.toList_some, List.map_append, List.getD_eq_getElem?_getD, List.getElem?_eq_getElem hk]
 rfl
theorem bHead (h : List UInt8) (hl : h.length ≤ 100000) (w : World) :
  Calls Tryz.prog 83 #[.string (bs h)] w fun e w' => e = .returned (.pointer (some ⟨w.heap.size, 0, none⟩)) ∧ w'.heap[w.heap.size]? = some (.cells #[.int .u32 (headS h : Nat)] 122 (0, 0)) ∧ GL [] w w' := by
 go_enter Tryz.func83, Tryz.ntmps83
 go_wp2_with fail
 have HB1 : Hid ((w.alloc (.cells #[.int .u32 1] 122)).heap[w.heap.size]? = some (.cells #[.int .u32 1] 122 (0, 0))) := Lib.hid (blk_new _ _)
 have HG1 : Hid (GL [] w (w.alloc (.cells #[.int .u32 1] 122))) := Lib.hid (gl_alloc (gl_refl _ _) _)
 have hS1 : w.heap.size < (w.alloc (.cells #[.int .u32 1] 122)).heap.size := by simp
 generalize w.alloc (.cells #[.int .u32 1] 122) = w1 at *
 go_loopw [4, 8] (fun _ iv wr => ∃ k : Nat, k ≤ h.length ∧ iv = .int .i64 k ∧ Hid (wr.heap[w.heap.size]? = some (.cells #[.int .u32 (poly 1 ((h.take k).map (fun c => UInt8.ofNat (c.toNat / 32))) : Nat)] 122 (0, 0))) ∧ Hid (GL [] w wr)) (fun _ iv _ => h.length - (intOf iv).toNat)
 case atStart => exact ⟨0, by omega, rfl, HB1, HG1⟩
 case round =>
  obtain ⟨k, hk, rfl, hbr, hgr⟩ := hrel
  by_cases hlt : k < h.length
  · have hk1 : (k : Int) < h.length := by omega
    obtain ⟨x, hx⟩ : ∃ x, x = (h.getD k 0).toNat := ⟨_, rfl⟩
    have hx8 : x < 256 := by rw [hx]; exact (h.getD k 0).toNat_lt
    have hix := index_str wr h k hlt
    rw [← hx] at hix
    have HM : Hid ((h.take (k + 1)).map (fun c => UInt8.ofNat (c.toNat / 32)) = (h.take k).map (fun c => UInt8.ofNat (c.toNat / 32)) ++ [UInt8.ofNat (x / 32)]) := Lib.hid (by rw [map_take_snoc h k hlt, hx])
    clear hx
    have hpl := poly_lt 1 ((h.take k).map (fun c => UInt8.ofNat (c.toNat / 32))) om_
    have HPA : Hid (poly 1 ((h.take (k + 1)).map (fun c => UInt8.ofNat (c.toNat / 32))) = poly (poly 1 ((h.take k).map (fun c => UInt8.ofNat (c.toNat / 32)))) [UInt8.ofNat (x / 32)]) := Lib.hid (by rw [HM.out, poly_append])
    generalize poly 1 ((h.take k).map (fun c => UInt8.ofNat (c.toNat / 32))) = P at *
    go_wp2_with fail
    refine (bAdd1 w.heap.size P (UInt8.ofNat (x / 32)) _ (by rw [UInt8.toNat_ofNat']; omega) wr hbr.out hpl).mono ?_
    rintro e w2 ⟨rfl, hb2, hg2⟩
    have HB2 := Lib.hid hb2
    have HG2 := Lib.hid hg2
    clear hb2 hg2
    go_wp2_with fail
    go_roundw
    case rel =>
     refine ⟨k + 1, by omega, by go_num, Lib.hid ?_, Lib.hid (gl_step HG2.out hgr.out si_)⟩
     rw [HPA.out]
     exact HB2.out
    case measure => simp [intOf]; omega
  · obtain rfl : k = h.length := by omega
    have hbe := hbr.out
    rw [List.take_length] at hbe
    have hpl := poly_lt 1 (h.map (fun c => UInt8.ofNat (c.toNat / 32))) om_
    have HPA : Hid (poly 1 (h.map (fun c => UInt8.ofNat (c.toNat / 32)) ++ [0]) = poly (poly 1 (h.map (fun c => UInt8.ofNat (c.toNat / 32)))) [0]) := Lib.hid (poly_append _ _ _)
    have HBE := Lib.hid hbe
    clear hbr hbe
    go_wp2_with fail
    refine (bAdd1 w.heap.size _ 0 _ si_ wr HBE.out hpl).mono ?_
    rintro e w2 ⟨rfl, hb2, hg2⟩
    rw [← HPA.out] at hb2
    have HB2 := Lib.hid hb2
    have HG2 : Hid (GL [] w w2) := Lib.hid (gl_step hg2 hgr.out si_)
    clear hb2 hg2 hgr HPA hpl HBE
    go_wp2_with fail
    go_loopw [5, 22] (fun _ iv wr => ∃ k : Nat, k ≤ h.length ∧ iv = .int .i64 k ∧ Hid (wr.heap[w.heap.size]? = some (.cells #[.int .u32 (poly 1 (h.map (fun c => UInt8.ofNat (c.toNat / 32)) ++ [0] ++ (h.take k).map (fun c => UInt8.ofNat (c.toNat % 32))) : Nat)] 122 (0, 0))) ∧ Hid (GL [] w wr)) (fun _ iv _ => h.length - (intOf iv).toNat)
    case atStart => exact ⟨0, by omega, rfl, Lib.hid (by rw [List.take_zero, List.map_nil, List.append_nil]; exact HB2.out), HG2⟩
    case round =>
     clear hk hlt
     obtain ⟨k, hk, rfl, hbr, hgr⟩ := hrel
     by_cases hlt : k < h.length
     · have hk1 : (k : Int) < h.length := by omega
       obtain ⟨x, hx⟩ : ∃ x, x = (h.getD k 0).toNat := ⟨_, rfl⟩
       have hx8 : x < 256 := by rw [hx]; exact (h.getD k 0).toNat_lt
       have hix := index_str wr h k hlt
       rw [← hx] at hix
       have HM : Hid ((h.take (k + 1)).map (fun c => UInt8.ofNat (c.toNat % 32)) = (h.take k).map (fun c => UInt8.ofNat (c.toNat % 32)) ++ [UInt8.ofNat (x % 32)]) := Lib.hid (by rw [map_take_snoc h k hlt, hx])
       clear hx
       have hpl := poly_lt 1 (h.map (fun c => UInt8.ofNat (c.toNat / 32)) ++ [0] ++ (h.take k).map (fun c => UInt8.ofNat (c.toNat % 32))) om_
       have HPA : Hid (poly 1 (h.map (fun c => UInt8.ofNat (c.toNat / 32)) ++ [0] ++ (h.take (k + 1)).map (fun c => UInt8.ofNat (c.toNat % 32))) = poly (poly 1 (h.map (fun c => UInt8.ofNat (c.toNat / 32)) ++ [0] ++ (h.take k).map (fun c => UInt8.ofNat (c.toNat % 32)))) [UInt8.ofNat (x % 32)]) := Lib.hid (by rw [HM.out, ← List.append_assoc, poly_append])
       generalize poly 1 (h.map (fun c => UInt8.ofNat (c.toNat / 32)) ++ [0] ++ (h.take k).map (fun c => UInt8.ofNat (c.toNat % 32))) = P at *
       have h31 := and31 x hx8
       go_wp2_with fail
       refine (bAdd1 w.heap.size P (UInt8.ofNat (x % 32)) _ (by rw [UInt8.toNat_ofNat']; omega) wr hbr.out hpl).mono ?_
       rintro e w2 ⟨rfl, hb2, hg2⟩
       have HB2 := Lib.hid hb2
       have HG2 := Lib.hid hg2
       clear hb2 hg2
       go_wp2_with fail
       go_roundw
       case rel =>
        refine ⟨k + 1, by omega, by go_num, Lib.hid ?_, Lib.hid (gl_step HG2.out hgr.out si_)⟩
        rw [HPA.out]
        exact HB2.out
       case measure => simp [intOf]; omega
     · obtain rfl : k = h.length := by omega
       have hbe := hbr.out
       rw [List.take_length] at hbe
       have HBE : Hid (wr.heap[w.heap.size]? = some (.cells #[.int .u32 (headS h : Nat)] 122 (0, 0))) := Lib.hid (by unfold headS hrpW; rw [show (0 : UInt8) :: h.map (fun c => UInt8.ofNat (c.toNat % 32)) = [0] ++ h.map (fun c => UInt8.ofNat (c.toNat % 32)) from rfl, ← List.append_assoc]; exact hbe)
       clear hbe hbr
       go_wp2_with fail
       exact bodyPost_ret (v := .pointer (some ⟨w.heap.size, 0, none⟩)) (by simp [results, Tryz.results83, go_sem]) rfl ⟨rfl, HBE.out, hgr.out⟩
end Go.Proofs.YtembdkodajichaaGreatDoor
