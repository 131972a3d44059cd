/- The document's layer 21: a public key, a digest, what two agree on, an act. -/
import Derived.Test.YtaaiaahkakkleaaGreatDoorR21P
import Derived.Test.YtaaiaahkakkleaaGreatDoorMRef
import Derived.Test.YtaaiaahkakkleaaGreatDoorRefU
set_option maxRecDepth 100000
set_option maxHeartbeats 2000000
set_option linter.unusedSimpArgs false
set_option linter.unusedVariables false
namespace Go.Proofs.YtaaiaahkakkleaaGreatDoor
open Go.RowKit
theorem ref_two (c : UInt8) (n : Int) (hc : (c.toNat : Int) = n) (x y : List UInt8) (hx : x.length ≤ 9000000000000000000) (hy : y.length ≤ 9000000000000000000) (w : World) :
  Calls Tryz.prog 76 #[.int .u8 n, .string (bs x), .string (bs y)] w fun e w' => e = .returned (.tuple #[.string (bs (twoT c x y).1), .int .i64 (twoT c x y).2]) ∧ Below w.heap.size w w' := by
 subst hc
 exact refTwo c x y hx hy w
theorem ref_one (c : UInt8) (n : Int) (hc : (c.toNat : Int) = n) (x : List UInt8) (hx : x.length ≤ 9000000000000000000) (w : World) :
  Calls Tryz.prog 74 #[.int .u8 n, .string (bs x)] w fun e w' => e = .returned (.tuple #[.string (bs (oneT c x).1), .int .i64 (oneT c x).2]) ∧ Below w.heap.size w w' := by
 subst hc
 exact refOne c x hx w
theorem right_cons2 {l : List UInt8} (h : right l = true) : ∃ c r, l = c :: r := by
 cases l with
 | nil => simp [right, rt, rd] at h
 | cons c r => exact ⟨c, r, rfl⟩
theorem qPub (k : List UInt8) (hk : k.length ≤ 9000000000000000000) (w : World) :
  Calls Tryz.prog 49 #[.string (bs k)] w fun e w' => e = .returned (.tuple #[.string (bs (secretB k).1), .bool (secretB k).2]) ∧ Below w.heap.size w w' := by
 obtain ⟨y, g, hy⟩ : ∃ y g, pubT k = (y, g) := ⟨_, _, rfl⟩
 have HY := Lib.hid hy
 by_cases hg : g = 0
 · have hr : right y = true := by have := pubT_rt (l := k) (by rw [hy]; exact hg); rwa [hy] at this
   obtain ⟨c, r, hl⟩ := right_cons2 hr
   have hb : (plainB y) = (c == 80) := by rw [plainB_is, hr, hl]; rfl
   have H : Hid (secretB k = (y, c == 80)) := by show secretB k = _; unfold secretB; rw [hy, ← hb]; simp [hg]
   have hc : (((c.toNat : Nat) : Int) == 80) = (c == 80) := by
    rw [Bool.eq_iff_iff, beq_iff_eq, beq_iff_eq, ← UInt8.toNat_inj]
    show _ ↔ c.toNat = 80
    omega
   have hl1 : y.length = r.length + 1 := by rw [hl]; rfl
   have hl2 := (right_len hr).2
   subst hg hl
   clear hy hb hr
   go_enter Tryz.func49, Tryz.ntmps49
   go_wp2_with fail
   refine (refPub k hk _).mono ?_
   rintro e w1 ⟨rfl, hb1⟩
   rw [HY.out]
   go_wp2_with fail
   go_quiet (fail)
   go_wp2_with fail
   go_ret2
   exact ⟨by rw [H.out, ← hc]; rfl, bl_⟩
 · have H : Hid (secretB k = (y, false)) := by show secretB k = _; unfold secretB; rw [hy]; simp [hg]
   have b1 : (g == 0) = false := by simpa using hg
   clear hy hg
   go_enter Tryz.func49, Tryz.ntmps49
   go_wp2_with fail
   refine (refPub k hk _).mono ?_
   rintro e w1 ⟨rfl, hb1⟩
   rw [HY.out]
   go_wp2_with fail
   go_quiet (fail)
   go_wp2_with fail
   go_ret2
   exact ⟨by rw [H.out]; rfl, bl_⟩
theorem qPlain (x : List UInt8) (hx : x.length ≤ 9000000000000000000) (w : World) :
  Calls Tryz.prog 50 #[.string (bs x)] w fun e w' => e = .returned (.bool (plainB x)) ∧ Below w.heap.size w w' := by
 have H := Lib.hid (plainB_is x)
 cases hr : right x with
 | true =>
   have HR := Lib.hid hr
   obtain ⟨c, r, hl⟩ := right_cons2 hr
   have hc : (((c.toNat : Nat) : Int) == 80) = (c == 80) := by
    rw [Bool.eq_iff_iff, beq_iff_eq, beq_iff_eq, ← UInt8.toNat_inj]
    show _ ↔ c.toNat = 80
    omega
   have hl1 : x.length = r.length + 1 := by rw [hl]; rfl
   subst hl
   clear hr
   go_enter Tryz.func50, Tryz.ntmps50
   go_wp2_with fail
   refine (refRight _ hx _).mono ?_
   rintro e w1 ⟨rfl, hb1⟩
   rw [HR.out]
   go_wp2_with fail
   go_ret
   exact ⟨by rw [H.out, HR.out]; first | rfl | (simp [head, hc]; done), bl_⟩
 | false =>
   have HR := Lib.hid hr
   clear hr
   go_enter Tryz.func50, Tryz.ntmps50
   go_wp2_with fail
   refine (refRight _ hx _).mono ?_
   rintro e w1 ⟨rfl, hb1⟩
   rw [HR.out]
   go_wp2_with fail
   go_ret
   exact ⟨by rw [H.out, HR.out]; rfl, bl_⟩
theorem pair_at (w : World) (a b : List UInt8) : ∀ (j : Nat) (x : List UInt8), [a, b][j]? = some x → (w.alloc (.cells #[.string (bs a), .string (bs b)] 22)).cell? ⟨w.heap.size, 0 + j, none⟩ = some (.string (bs x)) := by
 intro j x h
 rw [Nat.zero_add]
 refine (blk_cell (blk_new w (.cells #[.string (bs a), .string (bs b)] 22)) j).trans ?_
 match j, h with
 | 0, h => simp at h; subst h; rfl
 | 1, h => simp at h; subst h; rfl
theorem pair_len {a b : List UInt8} (ha : a.length ≤ 9000000000000000000) (hb : b.length ≤ 9000000000000000000) : ∀ x ∈ [a, b], x.length ≤ 9000000000000000000 := by
 intro x hx
 simp at hx
 rcases hx with rfl | rfl <;> assumption
theorem qHash (a b : List UInt8) (ha : a.length ≤ 9000000000000000000) (hb : b.length ≤ 9000000000000000000) (w : World) :
  Calls Tryz.prog 51 #[.string (bs a), .string (bs b)] w fun e w' => e = .returned (.string (bs (hashR a b))) ∧ Below w.heap.size w w' := by
 have hT := tupleT_len [a, b]
 obtain ⟨y, g, hy⟩ : ∃ y g, tupleT [a, b] = (y, g) := ⟨_, _, rfl⟩
 have HB := Lib.hid (fun h : (tupleT [a, b]).2 ≠ 0 => tupleT_bad h)
 rw [hy] at hT
 have hT : y.length ≤ 16384 := hT
 have HY := Lib.hid hy
 by_cases hg : g = 0
 · subst hg
   obtain ⟨z, q, hz⟩ : ∃ z q, oneT 72 y = (z, q) := ⟨_, _, rfl⟩
   have HZ := Lib.hid hz
   have HB2 := Lib.hid (fun h : (oneT 72 y).2 ≠ 0 => oneT_bad h)
   have H : Hid (hashR a b = z) := by show hashR a b = _; unfold hashR; rw [hy]; show (oneT 72 y).1 = z; rw [hz]
   have HE : Hid (q ≠ 0 → z = []) := fun h => by have := HB2.out; rw [hz] at this; exact this h
   cases hqb : (q != 0)
   all_goals
    clear hy hz
    go_enter Tryz.func51, Tryz.ntmps51
    go_wp2_with fail
    refine (refTuple [a, b] w.heap.size 0 2 (pair_len ha hb) si_ _ si_ (pair_at w a b)).mono ?_
    rintro e w1 ⟨rfl, hb1⟩
    rw [HY.out]
    have hbA : Below w.heap.size w w1 := bl_
    clear hb1
    go_wp2_with fail
    refine (ref_one 72 72 rfl y om_ _).mono ?_
    rintro e w2 ⟨rfl, hb2⟩
    rw [HZ.out]
    go_wp2_with fail
    go_ret
    exact ⟨by rw [H.out]; first | rfl | (rw [HE.out (by simpa using hqb)]; rfl), bl_⟩
 · have b1 : (g != 0) = true := by simpa using hg
   have H : Hid (hashR a b = []) := by
    show hashR a b = _
    unfold hashR
    rw [HB.out (by rw [hy]; exact hg)]
    exact oneT_nil 72
   clear hy hg
   go_enter Tryz.func51, Tryz.ntmps51
   go_wp2_with fail
   refine (refTuple [a, b] w.heap.size 0 2 (pair_len ha hb) si_ _ si_ (pair_at w a b)).mono ?_
   rintro e w1 ⟨rfl, hb1⟩
   rw [HY.out]
   go_wp2_with fail
   go_ret
   exact ⟨by rw [H.out]; first | rfl | (simp; done), bl_⟩
theorem qAgree (k l : List UInt8) (hk : k.length ≤ 9000000000000000000) (hl : l.length ≤ 9000000000000000000) (w : World) :
  Calls Tryz.prog 52 #[.string (bs k), .string (bs l)] w fun e w' => e = .returned (.string (bs (agreeR k l))) ∧ Below w.heap.size w w' := by
 obtain ⟨y, g, hy⟩ : ∃ y g, agreeT k l = (y, g) := ⟨_, _, rfl⟩
 have HY := Lib.hid hy
 have HB := Lib.hid (fun h : (agreeT k l).2 ≠ 0 => agreeT_bad h)
 have H : Hid (agreeR k l = y) := by show agreeR k l = _; unfold agreeR; rw [hy]
 by_cases hg : g = 0
 · subst hg
   clear hy
   go_enter Tryz.func52, Tryz.ntmps52
   go_wp2_with fail
   refine (refAgree k l hk hl _).mono ?_
   rintro e w1 ⟨rfl, hb1⟩
   rw [HY.out]
   go_wp2_with fail
   go_ret
   exact ⟨by rw [H.out]; first | rfl | (simp; done), bl_⟩
 · have b1 : (g != 0) = true := by simpa using hg
   have h1 : Hid (y = []) := by
    have := HB.out
    rw [hy] at this
    exact this hg
   clear hy hg
   go_enter Tryz.func52, Tryz.ntmps52
   go_wp2_with fail
   refine (refAgree k l hk hl _).mono ?_
   rintro e w1 ⟨rfl, hb1⟩
   rw [HY.out]
   go_wp2_with fail
   go_ret
   exact ⟨by rw [H.out, h1.out]; first | rfl | (simp; done), bl_⟩
theorem qAct (p k : List UInt8) (hp : p.length ≤ 9000000000000000000) (hk : k.length ≤ 9000000000000000000) (w : World) :
  Calls Tryz.prog 53 #[.string (bs p), .string (bs k)] w fun e w' => e = .returned (.string (bs (actR p k))) ∧ Below w.heap.size w w' := by
 have hT := twoT_len 66 k boxE
 obtain ⟨y, g, hy⟩ : ∃ y g, twoT 66 k boxE = (y, g) := ⟨_, _, rfl⟩
 have HB := Lib.hid (fun h : (twoT 66 k boxE).2 ≠ 0 => twoT_bad h)
 rw [hy] at hT
 have hT : y.length ≤ 16384 := hT
 have HY := Lib.hid hy
 obtain ⟨z, q, hz⟩ : ∃ z q, tupleT [p, y] = (z, q) := ⟨_, _, rfl⟩
 have HZ := Lib.hid hz
 have HB2 := Lib.hid (fun h : (tupleT [p, y]).2 ≠ 0 => tupleT_bad h)
 have H : Hid (actR p k = z) := by show actR p k = _; unfold actR; rw [hy]; show (tupleT [p, y]).1 = z; rw [hz]
 have HE : Hid (q ≠ 0 → z = []) := fun h => by have := HB2.out; rw [hz] at this; exact this h
 by_cases hg : g = 0
 · subst hg
   cases hqb : (q != 0)
   all_goals
    clear hy hz
    go_enter Tryz.func53, Tryz.ntmps53
    go_wp2_with fail
    refine (ref_two 66 66 rfl k boxE hk de_ _).mono ?_
    rintro e w1 ⟨rfl, hb1⟩
    rw [HY.out]
    go_wp2_with fail
    have hbA : Below w.heap.size w (w1.alloc (.cells #[.string (bs p), .string (bs y)] 22)) := bl_
    refine (refTuple [p, y] w1.heap.size 0 2 (pair_len hp om_) si_ _ si_ (pair_at w1 p y)).mono ?_
    rintro e w2 ⟨rfl, hb2⟩
    rw [HZ.out]
    clear hb1
    go_wp2_with fail
    go_ret
    exact ⟨by rw [H.out]; first | rfl | (rw [HE.out (by simpa using hqb)]; rfl), bl_⟩
 · have b1 : (g != 0) = true := by simpa using hg
   have h1 : Hid (z = []) := by
    show z = []
    have h2 : y = [] := by
     have := HB.out
     rw [hy] at this
     exact this hg
    have h3 : (tupleT [p, y]).2 ≠ 0 := fun h => (tupleT_good h).2 y si_ h2
    have := HB2.out h3
    rw [hz] at this
    exact this
   clear hy hg hz
   go_enter Tryz.func53, Tryz.ntmps53
   go_wp2_with fail
   refine (ref_two 66 66 rfl k boxE hk de_ _).mono ?_
   rintro e w1 ⟨rfl, hb1⟩
   rw [HY.out]
   go_wp2_with fail
   go_ret
   exact ⟨by rw [H.out, h1.out]; first | rfl | (simp; done), bl_⟩
theorem qFirst (t : List UInt8) (hl : t.length ≤ 9000000000000000000) (w : World) :
  Calls Tryz.prog 102 #[.string (bs t)] w fun e w' => e = .returned (.tuple #[.string (bs (firstB t).1), .bool (firstB t).2]) ∧ Below w.heap.size w w' := by
 cases hr : rt t with
 | none =>
   have H : Hid (firstB t = ([], false)) := by show firstB t = _; simp [firstB, hr]
   have HR := Lib.hid hr
   clear hr
   go_enter Tryz.func102, Tryz.ntmps102
   go_wp2_with fail
   refine (refOpen t hl _).mono ?_
   rintro e w1 hp
   rw [HR.out] at hp
   obtain ⟨rfl, hb1⟩ := hp
   go_wp2_with fail
   go_ret2
   exact ⟨by rw [H.out]; rfl, bl_⟩
 | some s =>
   have HR := Lib.hid hr
   by_cases ho : s.op.toNat = 84
   · have b1 : (((s.op.toNat : Nat) : Int) != 84) = false := by simp [ho]
     by_cases hk : s.kids.length = 2
     · obtain ⟨a, b, hab⟩ : ∃ a b, s.kids = [a, b] := by
        match hkk : s.kids, hk with
        | [a, b], _ => exact ⟨a, b, rfl⟩
       have hal := right_len (rt_kids hr a (by simp [hab])).1
       have HKS := Lib.hid hab
       have H : Hid (firstB t = if plainB a = true then (a, true) else ([], false)) := by show firstB t = _; simp [firstB, hr, ho, hab]
       cases hp : plainB a
       all_goals
        have HPL := Lib.hid hp
        clear hr ho hk hab hp
        go_enter Tryz.func102, Tryz.ntmps102
        go_wp2_with (first | (go_at_call 101; refine (refOpen t hl _).mono ?_; rintro e w1 hp; rw [HR.out] at hp; obtain ⟨ad, kn, kc, rfl, hown, hb1⟩ := hp; rw [HKS.out] at hown; obtain ⟨g, cap, hv, hgb, hgw, hcap, hcap2, hcell⟩ := own_cells hown si_; injection hv with hv1 hv2 hv3; subst hv1 hv2 hv3; have c0 := hcell 0 (.string (bs a)) rfl; have HC0 := Lib.hid c0; clear hcell hown) | (go_at_call 50; refine (qPlain a om_ _).mono ?_; rintro e w2 ⟨rfl, hb2⟩; rw [HPL.out]; have HS2 := blk_below (blk_new w1 _) hb2 si_; have f2 := blk_cell HS2; have f3 := blk_free HS2; have c2 := cell_below2 (cell_alloc2 HC0.out _) hb2))
        go_ret2
        exact ⟨by rw [H.out, HPL.out]; rfl, bl_⟩
     · have H : Hid (firstB t = ([], false)) := by show firstB t = _; simp [firstB, hr, ho, hk]
       have hk2 : ∀ (ad : Option Addr) (kn kc : Nat) (w0 w1 : World), w1.ownsRow w0.heap.size 22 1 (.slice ad kn kc) s.kids.length (s.kids.map fun k => .string (bs k)) → (((kn : Nat) : Int) != 2) = true := by
        intro ad kn kc w0 w1 ho
        have := own_len ho
        simp; omega
       clear hr ho hk
       go_enter Tryz.func102, Tryz.ntmps102
       go_wp2_with fail
       refine (refOpen t hl _).mono ?_
       rintro e w1 hp
       rw [HR.out] at hp
       obtain ⟨ad, kn, kc, rfl, hown, hb1⟩ := hp
       have b2 := hk2 _ _ _ _ _ hown
       clear hown hk2
       go_wp2_with fail
       go_ret2
       exact ⟨by rw [H.out]; rfl, bl_⟩
   · have H : Hid (firstB t = ([], false)) := by show firstB t = _; simp [firstB, hr, ho]
     have b1 : (((s.op.toNat : Nat) : Int) != 84) = true := by simp; omega
     clear hr ho
     go_enter Tryz.func102, Tryz.ntmps102
     go_wp2_with fail
     refine (refOpen t hl _).mono ?_
     rintro e w1 hp
     rw [HR.out] at hp
     obtain ⟨ad, kn, kc, rfl, hown, hb1⟩ := hp
     clear hown
     go_wp2_with fail
     go_ret2
     exact ⟨by rw [H.out]; rfl, bl_⟩
end Go.Proofs.YtaaiaahkakkleaaGreatDoor
