/- The reference: two agree, a box is opened. -/
import Derived.Test.YtaaiaahkakkleaaGreatDoorMRef
import Derived.Test.YtaaiaahkakkleaaGreatDoorMSpec
set_option maxRecDepth 100000
set_option maxHeartbeats 2000000
set_option linter.unusedSimpArgs false
set_option linter.unusedVariables false
namespace Go.Proofs.YtaaiaahkakkleaaGreatDoor
open Go.RowKit
theorem cell_alloc2 {w : World} {a : Addr} {v : Value} (h : w.cell? a = some v) (o : Obj) : (w.alloc o).cell? a = some v := by
 rw [World.cell?_alloc_some _ _ _ (by rw [h]; rfl)]; exact h
theorem cell_below2 {w w' : World} {a : Addr} {v : Value} (h : w.cell? a = some v) (hb : Below w.heap.size w w') : w'.cell? a = some v :=
 (hb.cell (World.block_lt_of_cell? _ _ h)).trans h
theorem gt_less : ∀ (k j : List UInt8), (!Op.bytesLess k j && !k == j) = Op.bytesLess j k
 | [], [] => rfl
 | [], b :: j => by simp [Op.bytesLess]
 | a :: k, [] => by simp [Op.bytesLess]
 | a :: k, b :: j => by
   have ih := gt_less k j
   rw [Op.bytesLess, Op.bytesLess, ← ih]
   by_cases h1 : a < b
   · have h2 : ¬ b < a := fun h => UInt8.lt_irrefl _ (UInt8.lt_trans h1 h)
     have h3 : a ≠ b := fun h => UInt8.lt_irrefl b (by rw [h] at h1; exact h1)
     simp [h1, h2, h3.symm]
   · by_cases h2 : b < a
     · have h3 : a ≠ b := fun h => UInt8.lt_irrefl b (by rw [h] at h2; exact h2)
       simp [h1, h2, h3]
     · have h3 : a = b := UInt8.le_antisymm (UInt8.not_lt.1 h2) (UInt8.not_lt.1 h1)
       subst h3
       simp [h1]
theorem refAgree (k l : List UInt8) (hk : k.length ≤ 9000000000000000000) (hl : l.length ≤ 9000000000000000000) (w : World) :
  Calls Tryz.prog 75 #[.string (bs k), .string (bs l)] w fun e w' => e = .returned (.tuple #[.string (bs (agreeT k l).1), .int .i64 (agreeT k l).2]) ∧ Below w.heap.size w w' := by
 cases hr : rt l with
 | none =>
   have H : Hid (agreeT k l = ([], 10)) := by show agreeT k l = _; simp [agreeT, hr]
   have HR := Lib.hid hr
   clear hr
   cases hrk : right k
   all_goals
    have HRK := Lib.hid hrk
    clear hrk
    go_enter Tryz.func75, Tryz.ntmps75
    go_wp2_with fail
    refine (refOpen l hl _).mono ?_
    rintro e w1 hp
    rw [HR.out] at hp
    obtain ⟨rfl, hb1⟩ := hp
    go_wp2_with fail
    refine (refRight k hk _).mono ?_
    rintro e w2 ⟨rfl, hb2⟩
    rw [HRK.out]
    go_wp2_with fail
    go_ret2
    exact ⟨by rw [H.out]; rfl, bl_⟩
 | some s =>
   cases hrk : right k with
   | false =>
     have H : Hid (agreeT k l = ([], 10)) := by
      show agreeT k l = _
      simp only [agreeT, hr, twoT, hrk]
      simp
     have HR := Lib.hid hr
     have HRK := Lib.hid hrk
     clear hr hrk
     go_enter Tryz.func75, Tryz.ntmps75
     go_wp2_with fail
     refine (refOpen l hl _).mono ?_
     rintro e w1 hp
     rw [HR.out] at hp
     obtain ⟨ad, kn, kc, rfl, hown, hb1⟩ := hp
     clear hown
     go_wp2_with fail
     refine (refRight k hk _).mono ?_
     rintro e w2 ⟨rfl, hb2⟩
     rw [HRK.out]
     go_wp2_with fail
     go_ret2
     exact ⟨by rw [H.out]; rfl, bl_⟩
   | true =>
     have HRK := Lib.hid hrk
     by_cases ho : s.op.toNat = 80
     · obtain ⟨j, hj, hjr, hjl⟩ := rt_one_kid hr (by simp [arity, ← UInt8.toNat_inj, ho])
       have hjl2 := right_len hjr
       have HKS := Lib.hid hj
       have HR := Lib.hid hr
       have b1 : (((s.op.toNat : Nat) : Int) != 80) = false := by simp [ho]
       cases hbl : Op.bytesLess j k with
       | false =>
         have H : Hid (agreeT k l = twoT 88 k j) := by show agreeT k l = _; simp [agreeT, hr, ho, hj, hbl]
         have hgt : (!Op.bytesLess k j && !k == j) = false := (gt_less k j).trans hbl
         clear hbl
         clear hr ho hj hjr hrk
         go_enter Tryz.func75, Tryz.ntmps75
         go_wp2_with fail
         refine (refOpen l hl _).mono ?_
         rintro e w1 hp
         rw [HR.out] at hp
         obtain ⟨ad, kn, kc, rfl, hown, hb1⟩ := hp
         rw [HKS.out] at hown
         obtain ⟨g, cap, hv, hgb, hgw, hcap, hcap2, hcell⟩ := own_cells hown si_
         injection hv with hv1 hv2 hv3
         subst hv1 hv2 hv3
         simp only [List.length_cons, List.length_nil, Nat.zero_add] at hcap
         have HC := Lib.hid (cell_alloc2 (hcell 0 (.string (bs j)) rfl) (.cells #[.int .u8 s.op.toNat, .int .i64 (numOf s), .string (bs s.text), .slice (some ⟨g, 0, none⟩) 1 kc] 98))
         have HB := Lib.hid (blk_new w1 (.cells #[.int .u8 s.op.toNat, .int .i64 (numOf s), .string (bs s.text), .slice (some ⟨g, 0, none⟩) 1 kc] 98))
         have hbA : Below w.heap.size w (w1.alloc (.cells #[.int .u8 s.op.toNat, .int .i64 (numOf s), .string (bs s.text), .slice (some ⟨g, 0, none⟩) 1 kc] 98)) := bl_
         clear hcell hown hb1
         go_wp2_with fail
         generalize w1.alloc (.cells #[.int .u8 s.op.toNat, .int .i64 (numOf s), .string (bs s.text), .slice (some ⟨g, 0, none⟩) 1 kc] 98) = wa at *
         generalize w1.heap.size = B at *
         refine (refRight k hk _).mono ?_
         rintro e w2 ⟨rfl, hb2⟩
         rw [HRK.out]
         have c2 := cell_below2 HC.out hb2
         have HS2 := blk_below HB.out hb2 (blk_lt HB.out)
         have f2 := blk_cell HS2
         have f3 := blk_free HS2
         have f4 := blk_lt HS2
         have hbB : Below w.heap.size w w2 := hbA.trans (hb2.mono hbA.size)
         clear HS2 hb2 hbA HC HB
         go_wp2_with fail
         go_quiet (fail)
         go_wp2_with fail
         have hcall := refTwo 88 k j hk om_ (w2.drewN nq)
         have hcall2 : Calls Tryz.prog 76 #[.int .u8 88, .string (bs k), .string (bs j)] (w2.drewN nq) (fun e w' => e = .returned (.tuple #[.string (bs (twoT 88 k j).1), .int .i64 (twoT 88 k j).2]) ∧ Below (w2.drewN nq).heap.size (w2.drewN nq) w') := hcall
         refine hcall2.mono ?_
         clear hcall hcall2
         rintro e w3 ⟨rfl, hb3⟩
         have hbC : Below w.heap.size w w3 := hbB.trans (Below.mono ⟨hb3.os, hb3.tape, hb3.output, hb3.size, hb3.block⟩ hbB.size)
         clear f2 f3 f4 c2
         go_wp2_with fail
         go_ret2
         exact ⟨by rw [H.out]; rfl, hbC⟩
       | true =>
         have H : Hid (agreeT k l = twoT 88 j k) := by show agreeT k l = _; simp [agreeT, hr, ho, hj, hbl]
         have hgt : (!Op.bytesLess k j && !k == j) = true := (gt_less k j).trans hbl
         clear hbl
         clear hr ho hj hjr hrk
         go_enter Tryz.func75, Tryz.ntmps75
         go_wp2_with fail
         refine (refOpen l hl _).mono ?_
         rintro e w1 hp
         rw [HR.out] at hp
         obtain ⟨ad, kn, kc, rfl, hown, hb1⟩ := hp
         rw [HKS.out] at hown
         obtain ⟨g, cap, hv, hgb, hgw, hcap, hcap2, hcell⟩ := own_cells hown si_
         injection hv with hv1 hv2 hv3
         subst hv1 hv2 hv3
         simp only [List.length_cons, List.length_nil, Nat.zero_add] at hcap
         have HC := Lib.hid (cell_alloc2 (hcell 0 (.string (bs j)) rfl) (.cells #[.int .u8 s.op.toNat, .int .i64 (numOf s), .string (bs s.text), .slice (some ⟨g, 0, none⟩) 1 kc] 98))
         have HB := Lib.hid (blk_new w1 (.cells #[.int .u8 s.op.toNat, .int .i64 (numOf s), .string (bs s.text), .slice (some ⟨g, 0, none⟩) 1 kc] 98))
         have hbA : Below w.heap.size w (w1.alloc (.cells #[.int .u8 s.op.toNat, .int .i64 (numOf s), .string (bs s.text), .slice (some ⟨g, 0, none⟩) 1 kc] 98)) := bl_
         clear hcell hown hb1
         go_wp2_with fail
         generalize w1.alloc (.cells #[.int .u8 s.op.toNat, .int .i64 (numOf s), .string (bs s.text), .slice (some ⟨g, 0, none⟩) 1 kc] 98) = wa at *
         generalize w1.heap.size = B at *
         refine (refRight k hk _).mono ?_
         rintro e w2 ⟨rfl, hb2⟩
         rw [HRK.out]
         have c2 := cell_below2 HC.out hb2
         have HS2 := blk_below HB.out hb2 (blk_lt HB.out)
         have f2 := blk_cell HS2
         have f3 := blk_free HS2
         have f4 := blk_lt HS2
         have hbB : Below w.heap.size w w2 := hbA.trans (hb2.mono hbA.size)
         clear HS2 hb2 hbA HC HB
         go_wp2_with fail
         go_quiet (fail)
         go_wp2_with fail
         have hcall := refTwo 88 j k om_ hk (w2.drewN nq)
         have hcall2 : Calls Tryz.prog 76 #[.int .u8 88, .string (bs j), .string (bs k)] (w2.drewN nq) (fun e w' => e = .returned (.tuple #[.string (bs (twoT 88 j k).1), .int .i64 (twoT 88 j k).2]) ∧ Below (w2.drewN nq).heap.size (w2.drewN nq) w') := hcall
         refine hcall2.mono ?_
         clear hcall hcall2
         rintro e w3 ⟨rfl, hb3⟩
         have hbC : Below w.heap.size w w3 := hbB.trans (Below.mono ⟨hb3.os, hb3.tape, hb3.output, hb3.size, hb3.block⟩ hbB.size)
         clear f2 f3 f4 c2
         go_wp2_with fail
         go_ret2
         exact ⟨by rw [H.out]; rfl, hbC⟩
     · have H : Hid (agreeT k l = ([], 10)) := by show agreeT k l = _; simp [agreeT, hr, ho]
       have HR := Lib.hid hr
       have b1 : (((s.op.toNat : Nat) : Int) != 80) = true := by simp; omega
       clear hr ho hrk
       go_enter Tryz.func75, Tryz.ntmps75
       go_wp2_with fail
       refine (refOpen l hl _).mono ?_
       rintro e w1 hp
       rw [HR.out] at hp
       obtain ⟨ad, kn, kc, rfl, hown, hb1⟩ := hp
       clear hown
       go_wp2_with fail
       refine (refRight k hk _).mono ?_
       rintro e w2 ⟨rfl, hb2⟩
       rw [HRK.out]
       have HS2 := blk_below (blk_new w1 _) hb2 si_
       have f2 := blk_cell HS2
       have f3 := blk_free HS2
       go_wp2_with fail
       go_ret2
       exact ⟨by rw [H.out]; rfl, bl_⟩
theorem refUnbox (k l : List UInt8) (hl : l.length ≤ 9000000000000000000) (w : World) :
  Calls Tryz.prog 104 #[.string (bs k), .string (bs l)] w fun e w' => e = .returned (.tuple #[.string (bs (unboxT k l).1), .bool (unboxT k l).2]) ∧ Below w.heap.size w w' := by
 cases hr : rt l with
 | none =>
   have H : Hid (unboxT k l = ([], false)) := by show unboxT k l = _; simp [unboxT, hr]
   have HR := Lib.hid hr
   clear hr
   go_enter Tryz.func104, Tryz.ntmps104
   go_wp2_with fail
   refine (refOpen l hl _).mono ?_
   rintro e w1 hp
   rw [HR.out] at hp
   obtain ⟨rfl, hb1⟩ := hp
   go_wp2_with fail
   go_ret2
   exact ⟨by rw [H.out]; rfl, bl_⟩
 | some s =>
   by_cases ho : s.op.toNat = 66
   · obtain ⟨a, b, hj, har, hbr, hal, hbl⟩ := rt_two_kids hr (by simp [arity, ← UInt8.toNat_inj, ho])
     have HKS := Lib.hid hj
     have HR := Lib.hid hr
     have b1 : (((s.op.toNat : Nat) : Int) != 66) = false := by simp [ho]
     by_cases hak : a = k
     · subst hak
       have H : Hid (unboxT a l = (b, true)) := by show unboxT a l = _; simp [unboxT, hr, ho, hj]
       clear hr ho hj har hbr
       go_enter Tryz.func104, Tryz.ntmps104
       go_wp2_with (first | (go_at_call 101; refine (refOpen l hl _).mono ?_; rintro e w1 hp; rw [HR.out] at hp; obtain ⟨ad, kn, kc, rfl, hown, hb1⟩ := hp; rw [HKS.out] at hown; obtain ⟨g, cap, hv, hgb, hgw, hcap, hcap2, hcell⟩ := own_cells hown si_; injection hv with hv1 hv2 hv3; subst hv1 hv2 hv3; have c0 := hcell 0 (.string (bs a)) rfl; have c1 := hcell 1 (.string (bs b)) rfl; clear hcell hown))
       go_ret2
       exact ⟨by rw [H.out]; rfl, bl_⟩
     · have H : Hid (unboxT k l = ([], false)) := by show unboxT k l = _; simp [unboxT, hr, ho, hj, hak]
       have q : (a == k) = false := by simpa using hak
       have q2 : (a != k) = true := by simpa using hak
       clear hr ho hj har hbr
       go_enter Tryz.func104, Tryz.ntmps104
       go_wp2_with (first | (go_at_call 101; refine (refOpen l hl _).mono ?_; rintro e w1 hp; rw [HR.out] at hp; obtain ⟨ad, kn, kc, rfl, hown, hb1⟩ := hp; rw [HKS.out] at hown; obtain ⟨g, cap, hv, hgb, hgw, hcap, hcap2, hcell⟩ := own_cells hown si_; injection hv with hv1 hv2 hv3; subst hv1 hv2 hv3; have c0 := hcell 0 (.string (bs a)) rfl; have c1 := hcell 1 (.string (bs b)) rfl; clear hcell hown))
       go_ret2
       exact ⟨by rw [H.out]; rfl, bl_⟩
   · have H : Hid (unboxT k l = ([], false)) := by show unboxT k l = _; simp [unboxT, hr, ho]
     have HR := Lib.hid hr
     have b1 : (((s.op.toNat : Nat) : Int) != 66) = true := by simp; omega
     clear hr ho
     go_enter Tryz.func104, Tryz.ntmps104
     go_wp2_with fail
     refine (refOpen l hl _).mono ?_
     rintro e w1 hp
     rw [HR.out] at hp
     obtain ⟨ad, kn, kc, rfl, hown, hb1⟩ := hp
     clear hown
     go_wp2_with fail
     go_ret2
     exact ⟨by rw [H.out]; rfl, bl_⟩
end Go.Proofs.YtaaiaahkakkleaaGreatDoor
