/- The program: a public key's secret. -/
import Derived.Test.YtaaiaahkakkleaaGreatDoorDedU
import Derived.Test.YtaaiaahkakkleaaGreatDoorMTerm
set_option maxRecDepth 100000
set_option maxHeartbeats 4000000
set_option linter.unusedSimpArgs false
set_option linter.unusedVariables false
namespace Go.Proofs.YtaaiaahkakkleaaGreatDoor
open Go.RowKit
theorem dcell_alloc {w : World} {a : Addr} {v : Value} (h : w.cell? a = some v) (o : Obj) : (w.alloc o).cell? a = some v := by
 rw [World.cell?_alloc_some _ _ _ (by rw [h]; rfl)]; exact h
theorem dcell_below {w w' : World} {a : Addr} {v : Value} (h : w.cell? a = some v) (hb : Below w.heap.size w w') : w'.cell? a = some v :=
 (hb.cell (World.block_lt_of_cell? _ _ h)).trans h
theorem sec_pack (c : UInt8) (a b : List UInt8) : (if (twoT c a b).2 = 0 then some (twoT c a b).1 else none).getD [] = (twoT c a b).1 ∧ (if (twoT c a b).2 = 0 then some (twoT c a b).1 else none).isSome = ((twoT c a b).2 == 0) := by
 by_cases h : (twoT c a b).2 = 0
 · rw [if_pos h, h]; exact ⟨rfl, rfl⟩
 · rw [if_neg h]
   refine ⟨?_, by simp [h]⟩
   unfold twoT made at h ⊢
   split at h
   · split at h
     · simp at h
     · rename_i h1 h2; rw [if_pos h1, if_neg h2]; rfl
   · rename_i h1; rw [if_neg h1]; rfl
theorem sec_len (a : List UInt8) (ha : a.length ≤ 9000000000000000000) : ((secT a).getD []).length ≤ 9000000000000000000 := by
 cases h : secT a with
 | none => simp
 | some s => have := (secF_ok _ _ _ h).2; simp only [Option.getD_some]; omega
theorem dSecretN : ∀ (n : Nat) (t : List UInt8), t.length < n → t.length ≤ 9000000000000000000 → ∀ (w : World), GOk w →
  Calls Tryz.prog 93 #[.string (bs t)] w fun e w' => e = .returned (.tuple #[.string (bs ((secT t).getD [])), .bool (secT t).isSome]) ∧ Below w.heap.size w w' := by
 intro n
 induction n with
 | zero => intro t h; exact absurd h (Nat.not_lt_zero _)
 | succ n ih =>
 intro t hn ht w hG
 have HG := Lib.hid hG
 have IH := Lib.hid ih
 clear hG ih
 cases hr : rt t with
 | none =>
   have H : Hid (secT t = none) := secT_none hr
   have HR := Lib.hid hr
   clear hr
   go_enter Tryz.func93, Tryz.ntmps93
   go_wp2_with fail
   refine (tOpen t ht _ HG.out).mono ?_
   rintro e w1 hp
   rw [HR.out] at hp
   obtain ⟨rfl, hb1⟩ := hp
   go_wp2_with fail
   go_ret2
   exact ⟨by rw [H.out]; rfl, bl_⟩
 | some s =>
   have H := Lib.hid (secT_eq hr)
   have HR := Lib.hid hr
   by_cases h80 : s.op.toNat = 80
   · obtain ⟨a, hks, hra, hla⟩ := rt_one_kid hr (by rw [show s.op = 80 from UInt8.toNat_inj.1 h80]; rfl)
     have HH : Hid (secT t = some a) := by show secT t = some a; rw [H.out, if_pos h80, hks]; rfl
     have HKS := Lib.hid hks
     have b80 : (((s.op.toNat : Nat) : Int) == 80) = true := by simp [h80]
     clear H hr hks h80
     go_enter Tryz.func93, Tryz.ntmps93
     go_wp2_with fail
     refine (tOpen t ht _ HG.out).mono ?_
     rintro e w1 hp
     rw [HR.out] at hp
     obtain ⟨ad, kn, kc, rfl, hown, hb1⟩ := hp
     rw [HKS.out] at hown
     obtain ⟨g, cap, hv, hgb, hgw, hcap, hcap2, hcell⟩ := own_cells hown si_
     injection hv with hv1 hv2 hv3
     subst hv1 hv2 hv3
     have c0 := dcell_alloc (hcell 0 (.string (bs a)) rfl) (.cells #[.int .u8 s.op.toNat, .int .i64 (numOf s), .string (bs s.text), .slice (some ⟨g, 0, none⟩) 1 kc] 98)
     clear hcell hown
     go_wp2_with fail
     go_ret2
     exact ⟨by rw [HH.out]; rfl, bl_⟩
   have b80 : (((s.op.toNat : Nat) : Int) == 80) = false := by simp; omega
   by_cases h87 : s.op.toNat = 87
   · obtain ⟨a, b, hks, hra, hrb, hla, hlb⟩ := rt_two_kids hr (by rw [show s.op = 87 from UInt8.toNat_inj.1 h87]; rfl)
     have HH : Hid (secT t = if (twoT 86 ((secT a).getD []) ((secT b).getD [])).2 = 0 then some (twoT 86 ((secT a).getD []) ((secT b).getD [])).1 else none) := by show secT t = _; rw [H.out, if_neg h80, if_pos h87, hks]; rfl
     have HKS := Lib.hid hks
     have b87 : (((s.op.toNat : Nat) : Int) == 87) = true := by simp [h87]
     have la := (right_len hra).2
     have lb := (right_len hrb).2
     clear H hr hks h87 h80
     go_enter Tryz.func93, Tryz.ntmps93
     go_wp2_with fail
     refine (tOpen t ht _ HG.out).mono ?_
     rintro e w1 hp
     rw [HR.out] at hp
     obtain ⟨ad, kn, kc, rfl, hown, hb1⟩ := hp
     rw [HKS.out] at hown
     obtain ⟨g, cap, hv, hgb, hgw, hcap, hcap2, hcell⟩ := own_cells hown si_
     injection hv with hv1 hv2 hv3
     subst hv1 hv2 hv3
     have c0 := dcell_alloc (hcell 0 (.string (bs a)) rfl) (.cells #[.int .u8 s.op.toNat, .int .i64 (numOf s), .string (bs s.text), .slice (some ⟨g, 0, none⟩) 2 kc] 98)
     have c1 := dcell_alloc (hcell 1 (.string (bs b)) rfl) (.cells #[.int .u8 s.op.toNat, .int .i64 (numOf s), .string (bs s.text), .slice (some ⟨g, 0, none⟩) 2 kc] 98)
     have HP := Lib.hid (blk_new w1 (.cells #[.int .u8 s.op.toNat, .int .i64 (numOf s), .string (bs s.text), .slice (some ⟨g, 0, none⟩) 2 kc] 98))
     have HG1 := Lib.hid (gok_alloc (gok_below HG.out hb1) (.cells #[.int .u8 s.op.toNat, .int .i64 (numOf s), .string (bs s.text), .slice (some ⟨g, 0, none⟩) 2 kc] 98))
     have hb2 : Below w.heap.size w (w1.alloc (.cells #[.int .u8 s.op.toNat, .int .i64 (numOf s), .string (bs s.text), .slice (some ⟨g, 0, none⟩) 2 kc] 98)) := bl_
     clear hcell hown
     go_wp2_with fail
     generalize w1.alloc (.cells #[.int .u8 s.op.toNat, .int .i64 (numOf s), .string (bs s.text), .slice (some ⟨g, 0, none⟩) 2 kc] 98) = v1 at *
     generalize w1.heap.size = B at *
     refine (IH.out a om_ om_ _ HG1.out).mono ?_
     rintro e w3 ⟨rfl, hb3⟩
     have HP3 := Lib.hid (blk_below HP.out hb3 (blk_lt HP.out))
     have d1 := dcell_below c1 hb3
     have HG3 := Lib.hid (gok_below HG1.out hb3)
     have hb4 : Below w.heap.size w w3 := bl_
     clear c0 c1
     have f3a := blk_cell HP3.out
     have f3b := blk_free HP3.out
     have f3c := blk_lt HP3.out
     go_wp2_with fail
     refine (IH.out b om_ om_ _ HG3.out).mono ?_
     rintro e w5 ⟨rfl, hb5⟩
     have HG5 := Lib.hid (gok_below HG3.out hb5)
     have hb6 : Below w.heap.size w w5 := bl_
     clear f3a f3b f3c d1
     go_wp2_with fail
     refine (tJoin _ _ (sec_len a om_) (sec_len b om_) _ HG5.out).mono ?_
     rintro e w7 ⟨rfl, hb7⟩
     obtain ⟨k1, k2⟩ := sec_pack 86 ((secT a).getD []) ((secT b).getD [])
     have K1 := Lib.hid k1
     have K2 := Lib.hid k2
     clear k1 k2
     go_wp2_with fail
     go_ret2
     exact ⟨by (rw [HH.out, K1.out, K2.out]) <;> first | rfl | simp, bl_⟩
   have b87 : (((s.op.toNat : Nat) : Int) == 87) = false := by simp; omega
   by_cases h76 : s.op.toNat = 76
   · obtain ⟨a, b, hks, hra, hrb, hla, hlb⟩ := rt_two_kids hr (by rw [show s.op = 76 from UInt8.toNat_inj.1 h76]; rfl)
     have HH : Hid (secT t = if (twoT 75 ((secT a).getD []) b).2 = 0 then some (twoT 75 ((secT a).getD []) b).1 else none) := by show secT t = _; rw [H.out, if_neg h80, if_neg h87, if_pos h76, hks]; rfl
     have HKS := Lib.hid hks
     have b76 : (((s.op.toNat : Nat) : Int) == 76) = true := by simp [h76]
     have la := (right_len hra).2
     have lb := (right_len hrb).2
     clear H hr hks h76 h80 h87
     go_enter Tryz.func93, Tryz.ntmps93
     go_wp2_with fail
     refine (tOpen t ht _ HG.out).mono ?_
     rintro e w1 hp
     rw [HR.out] at hp
     obtain ⟨ad, kn, kc, rfl, hown, hb1⟩ := hp
     rw [HKS.out] at hown
     obtain ⟨g, cap, hv, hgb, hgw, hcap, hcap2, hcell⟩ := own_cells hown si_
     injection hv with hv1 hv2 hv3
     subst hv1 hv2 hv3
     have c0 := dcell_alloc (hcell 0 (.string (bs a)) rfl) (.cells #[.int .u8 s.op.toNat, .int .i64 (numOf s), .string (bs s.text), .slice (some ⟨g, 0, none⟩) 2 kc] 98)
     have c1 := dcell_alloc (hcell 1 (.string (bs b)) rfl) (.cells #[.int .u8 s.op.toNat, .int .i64 (numOf s), .string (bs s.text), .slice (some ⟨g, 0, none⟩) 2 kc] 98)
     have HP := Lib.hid (blk_new w1 (.cells #[.int .u8 s.op.toNat, .int .i64 (numOf s), .string (bs s.text), .slice (some ⟨g, 0, none⟩) 2 kc] 98))
     have HG1 := Lib.hid (gok_alloc (gok_below HG.out hb1) (.cells #[.int .u8 s.op.toNat, .int .i64 (numOf s), .string (bs s.text), .slice (some ⟨g, 0, none⟩) 2 kc] 98))
     have hb2 : Below w.heap.size w (w1.alloc (.cells #[.int .u8 s.op.toNat, .int .i64 (numOf s), .string (bs s.text), .slice (some ⟨g, 0, none⟩) 2 kc] 98)) := bl_
     clear hcell hown
     go_wp2_with fail
     generalize w1.alloc (.cells #[.int .u8 s.op.toNat, .int .i64 (numOf s), .string (bs s.text), .slice (some ⟨g, 0, none⟩) 2 kc] 98) = v1 at *
     generalize w1.heap.size = B at *
     refine (IH.out a om_ om_ _ HG1.out).mono ?_
     rintro e w3 ⟨rfl, hb3⟩
     have HP3 := Lib.hid (blk_below HP.out hb3 (blk_lt HP.out))
     have d1 := dcell_below c1 hb3
     have HG3 := Lib.hid (gok_below HG1.out hb3)
     have hb4 : Below w.heap.size w w3 := bl_
     clear c0 c1
     have f3a := blk_cell HP3.out
     have f3b := blk_free HP3.out
     have f3c := blk_lt HP3.out
     go_wp2_with fail
     refine (tBind _ b (sec_len a om_) om_ _ HG3.out).mono ?_
     rintro e w7 ⟨rfl, hb7⟩
     obtain ⟨k1, k2⟩ := sec_pack 75 ((secT a).getD []) b
     have K1 := Lib.hid k1
     have K2 := Lib.hid k2
     clear k1 k2
     go_wp2_with fail
     go_ret2
     exact ⟨by (rw [HH.out, K1.out, K2.out]) <;> first | rfl | simp, bl_⟩
   have b76 : (((s.op.toNat : Nat) : Int) == 76) = false := by simp; omega
   have HH : Hid (secT t = none) := by show secT t = none; rw [H.out, if_neg h80, if_neg h87, if_neg h76]
   clear H hr h80 h87 h76
   go_enter Tryz.func93, Tryz.ntmps93
   go_wp2_with fail
   refine (tOpen t ht _ HG.out).mono ?_
   rintro e w1 hp
   rw [HR.out] at hp
   obtain ⟨ad, kn, kc, rfl, hown, hb1⟩ := hp
   clear hown
   go_wp2_with fail
   go_ret2
   exact ⟨by rw [HH.out]; rfl, bl_⟩
theorem dSecret (t : List UInt8) (ht : t.length ≤ 9000000000000000000) (w : World) (hG : GOk w) :
  Calls Tryz.prog 93 #[.string (bs t)] w fun e w' => e = .returned (.tuple #[.string (bs ((secT t).getD [])), .bool (secT t).isSome]) ∧ Below w.heap.size w w' :=
 dSecretN (t.length + 1) t (Nat.lt_succ_self _) ht w hG
end Go.Proofs.YtaaiaahkakkleaaGreatDoor
