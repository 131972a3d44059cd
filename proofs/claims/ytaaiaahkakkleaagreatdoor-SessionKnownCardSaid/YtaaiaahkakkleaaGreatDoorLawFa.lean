/- The laws of layer 21: does a name stand in a term? -/
import Derived.Test.YtaaiaahkakkleaaGreatDoorMTerm
import Derived.Test.YtaaiaahkakkleaaGreatDoorDedR
import Derived.Test.YtaaiaahkakkleaaGreatDoorDedC
import Derived.Test.YtaaiaahkakkleaaGreatDoorDedL
set_option maxRecDepth 100000
set_option maxHeartbeats 2000000
set_option linter.unusedSimpArgs false
set_option linter.unusedVariables false
namespace Go.Proofs.YtaaiaahkakkleaaGreatDoor
open Go.RowKit
theorem stands_none {nm t : List UInt8} (hn : right nm = true) (h : rt t = none) : stands nm t = false := by
 unfold stands
 cases hl : t.length with
 | zero => rfl
 | succ n =>
   have hne : (t == nm) = false := by
    cases hq : t == nm with
    | false => rfl
    | true =>
      have e : t = nm := by simpa using hq
      rw [e] at h
      unfold right at hn
      rw [h] at hn
      cases hn
   rw [stF, h, hne]
   rfl
theorem lWithin (nm : List UInt8) (hnr : right nm = true) : ∀ (m : Nat) (t : List UInt8), t.length < m → t.length ≤ 9000000000000000000 → ∀ (w : World), GOk w →
  Calls Tryz.prog 23 #[.string (bs t), .string (bs nm)] w fun e w' => e = .returned (.bool (stands nm t)) ∧ Below w.heap.size w w' := by
 intro m
 induction m with
 | zero => intro t h; omega
 | succ m ih =>
   intro t hlt ht w hG
   have HG := Lib.hid hG
   clear hG
   cases hr : rt t with
   | none =>
     have HS : Hid (stands nm t = false) := stands_none hnr hr
     have hne : (t == nm) = false := by
      cases hq : t == nm with
      | false => rfl
      | true =>
        have e : t = nm := by simpa using hq
        rw [e] at hr
        unfold right at hnr
        rw [hr] at hnr
        cases hnr
     have HR := Lib.hid hr
     clear hr
     go_enter Tryz.func23, Tryz.ntmps23
     go_wp2_with fail
     refine (tOpen t ht _ HG.out).mono ?_
     rintro e w1 hp
     rw [HR.out] at hp
     obtain ⟨rfl, hb1⟩ := hp
     have hB := blk_new w1 (.cells #[.int .u8 0, .int .i64 0, .string (bs []), .slice none 0 0] 98)
     have fa := blk_cell hB
     have fb := blk_free hB
     have fl := blk_lt hB
     clear hB
     go_wp2_with fail
     go_loop [7] (fun iv => iv = .int .i64 0) (fun _ => 0)
     case atStart => rfl
     case round =>
      subst hrel
      go_wp2
      go_ret
      exact ⟨by rw [HS.out]; first | rfl | (simp; done), bl_⟩
   | some x =>
     by_cases hq : t = nm
     · have b1 : (t == nm) = true := by simpa using hq
       have HS : Hid (stands nm t = true) := by show _ = _; rw [hq]; exact stands_self hnr
       have HR := Lib.hid hr
       clear hr hq
       go_enter Tryz.func23, Tryz.ntmps23
       go_wp2_with fail
       refine (tOpen t ht _ HG.out).mono ?_
       rintro e w1 hp
       rw [HR.out] at hp
       obtain ⟨ad, kn, kc, rfl, hown, hb1⟩ := hp
       clear hown
       go_wp2_with fail
       go_ret
       exact ⟨by rw [HS.out]; first | rfl | (simp; done), bl_⟩
     · have b1 : (t == nm) = false := by simpa using hq
       have HS := Lib.hid (show stands nm t = x.kids.any (stands nm) by rw [stands_eq nm hr, b1, Bool.false_or])
       have HK := Lib.hid (rt_kids hr)
       have HR := Lib.hid hr
       clear hr hq
       go_enter Tryz.func23, Tryz.ntmps23
       go_wp2_with fail
       refine (tOpen t ht _ HG.out).mono ?_
       rintro e w1 hp
       rw [HR.out] at hp
       obtain ⟨ad, kn, kc, rfl, hown, hb1⟩ := hp
       obtain ⟨hts, hkn, hge⟩ := own_terms hown
       have hkl : x.kids.length ≤ 32 := rt_many_kids HR.out
       subst hkn
       have HP := Lib.hid (blk_new w1 (.cells #[.int .u8 x.op.toNat, .int .i64 (numOf x), .string (bs x.text), .slice ad x.kids.length kc] 98))
       have HT := Lib.hid (termsAt_glx hts (gl_alloc (gl_refl [] _) (.cells #[.int .u8 x.op.toNat, .int .i64 (numOf x), .string (bs x.text), .slice ad x.kids.length kc] 98)) si_)
       have hb2 : Below w.heap.size w (w1.alloc (.cells #[.int .u8 x.op.toNat, .int .i64 (numOf x), .string (bs x.text), .slice ad x.kids.length kc] 98)) := bl_
       have hsz1 := hb1.size
       have hB0 : w1.heap.size < (w1.alloc (.cells #[.int .u8 x.op.toNat, .int .i64 (numOf x), .string (bs x.text), .slice ad x.kids.length kc] 98)).heap.size := by simp
       clear hown hts hge hb1
       go_wp2_with fail
       generalize w1.alloc (.cells #[.int .u8 x.op.toNat, .int .i64 (numOf x), .string (bs x.text), .slice ad x.kids.length kc] 98) = w2 at *
       generalize w1.heap.size = B at *
       go_loopw [7] (fun iv wr => ∃ k : Nat, k ≤ x.kids.length ∧ iv = .int .i64 k ∧ Hid ((x.kids.take k).any (stands nm) = false) ∧ Hid (GL [] w2 wr)) (fun iv _ => x.kids.length - (intOf iv).toNat)
       case atStart => exact ⟨0, by omega, rfl, rfl, Lib.hid (gl_refl _ _)⟩
       case round =>
        obtain ⟨k, hk, rfl, hany, hgr⟩ := hrel
        have HPr := Lib.hid (blk_gl HP.out hgr.out si_)
        have fa := blk_cell HPr.out
        have fb := blk_free HPr.out
        have fl := blk_lt HPr.out
        by_cases hlk : k < x.kids.length
        · have i1 : (k : Int) < x.kids.length := by omega
          have hx : x.kids[k]? = some x.kids[k] := List.getElem?_eq_getElem hlk
          have hkk := HK.out x.kids[k] (List.getElem_mem _)
          rcases termsAt_open (termsAt_glx HT.out hgr.out si_) with ⟨ad', c', he, h0 | ⟨b, o, rfl, hbl, hc⟩⟩
          · rw [h0] at hlk; simp at hlk
          · injection he with he1 he2 he3
            subst he1 he3
            have c0 := hc k _ hx
            have HX := Lib.hid (show x.kids.take (k + 1) = x.kids.take k ++ [x.kids[k]] by rw [List.take_add_one, hx]; rfl)
            have HKK := Lib.hid hkk
            have HMEM := Lib.hid (List.getElem_mem hlk)
            clear hx hc hkk he2
            generalize x.kids[k] = y at *
            have hyl : y.length ≤ 9000000000000000000 := by have := HKK.out.2; omega
            go_wp2_with fail
            refine (ih y (by have := HKK.out.2; omega) hyl _ (gok_gl HG.out (gl_step hgr.out (gl_below hb2 (gl_refl [] _)) si_) si_)).mono ?_
            rintro e w3 ⟨rfl, hb3⟩
            have hgr3 : GL [] w2 w3 := gl_below hb3 hgr.out
            cases hsy : stands nm y with
            | true =>
              go_wp2_with fail
              go_ret
              refine ⟨?_, ?_⟩
              · have e1 : stands nm t = true := by rw [HS.out, List.any_eq_true]; exact ⟨y, HMEM.out, hsy⟩
                rw [e1]; first | rfl | (simp; done)
              · have e2 : GL [] w w3 := gl_step hgr3 (gl_below hb2 (gl_refl [] _)) si_
                first | exact gl_to_below e2 | (have := gl_to_below e2; exact bl_)
            | false =>
              have HAN := Lib.hid (show (x.kids.take (k + 1)).any (stands nm) = false by rw [HX.out, List.any_append, hany.out]; simp [hsy])
              clear c0 hb3 fa fb fl
              go_wp2_with fail
              go_roundw
              case rel => first | exact ⟨k + 1, by omega, by go_num, HAN, Lib.hid hgr3⟩ | ((repeat apply Exists.intro); refine ⟨?_, rfl⟩; exact ⟨k + 1, by omega, by go_num, HAN, Lib.hid hgr3⟩)
              case measure => first | (simp [intOf]; omega) | ((show x.kids.length - ((k : Int) + 1).toNat < x.kids.length - (k : Int).toNat); omega)
        · obtain rfl : k = x.kids.length := by omega
          have e1 : stands nm t = false := by rw [HS.out]; have := hany.out; rwa [List.take_length] at this
          have e2 : GL [] w wr := gl_step hgr.out (gl_below hb2 (gl_refl [] _)) si_
          clear hany
          go_wp2_with fail
          go_ret
          exact ⟨by rw [e1]; first | rfl | (simp; done), gl_to_below e2⟩
end Go.Proofs.YtaaiaahkakkleaaGreatDoor
