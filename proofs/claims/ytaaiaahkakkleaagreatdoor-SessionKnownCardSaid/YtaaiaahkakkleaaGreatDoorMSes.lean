/- The program: two agree, a box is opened, a signature is one. The plain functions of the layer session: what is made with a first error kept, the acts, a frame. No program stands in this text. The plain functions of the layer session: acts 2 and 3, a frame, what is heard and sent. No program stands in this text. The plain functions of the layer session: the texts of a frame, one by one. No program stands in this text. The program's layer session: what is made with a first error kept. The program's layer session: who dials, who listens, the three acts. The program's layer session: act 1 is heard. The program's layer session: both directions' keys are made. The program's layer session: act 2 is heard. The program's layer session: act 3 is heard. The program's layer session: a frame is made. The program's layer session: a direction goes on behind a frame. The program's layer session: a frame is heard. The program's layer session: what is heard, at each stage. The program's layer session: what is sent; open, whose, closed. Two nodes of any names: their acts fit, their keys are the same; a frame is read as it was made. No program stands in this text. Whatever names two nodes have: their sessions open with the same keys, each knows the other; a frame is read as it was made. -/
import Derived.Test.YtaaiaahkakkleaaGreatDoorMTerm
import Derived.Test.YtaaiaahkakkleaaGreatDoorMSpec
import Derived.Laws.EntriesVeiled
import Derived.BigRegion
set_option maxRecDepth 100000
set_option maxHeartbeats 4000000
set_option linter.unusedSimpArgs false
set_option linter.unusedVariables false
-- MkB
namespace Go.Proofs.YtaaiaahkakkleaaGreatDoor
open Go.RowKit
theorem cell_alloc {w : World} {a : Addr} {v : Value} (h : w.cell? a = some v) (o : Obj) : (w.alloc o).cell? a = some v := by
 rw [World.cell?_alloc_some _ _ _ (by rw [h]; rfl)]; exact h
theorem cell_below {w w' : World} {a : Addr} {v : Value} (h : w.cell? a = some v) (hb : Below w.heap.size w w') : w'.cell? a = some v :=
 (hb.cell (World.block_lt_of_cell? _ _ h)).trans h
theorem two_cells_n {w : World} {x y : List UInt8} {T n : Nat} (h : n = w.heap.size) : ∀ (j : Nat) (z : List UInt8), [x, y][j]? = some z → (w.alloc (.cells #[.string (bs x), .string (bs y)] T)).cell? ⟨n, j, none⟩ = some (.string (bs z)) := by
 subst h; exact two_cells
theorem tAgree (k l : List UInt8) (hk : k.length ≤ 9000000000000000000) (hl : l.length ≤ 9000000000000000000) (w : World) (hG : GOk w) :
  Calls Tryz.prog 69 #[.string (bs k), .string (bs l)] w fun e w' => e = .returned (.tuple #[.string (bs (agreeT k l).1), .int .i64 (agreeT k l).2]) ∧ Below w.heap.size w w' := by
 have HG := Lib.hid hG
 clear hG
 cases hr : rt l with
 | none =>
   have H : Hid (agreeT k l = ([], 10)) := by show agreeT k l = _; simp [agreeT, hr]
   have HR := Lib.hid hr
   clear hr
   go_enter Tryz.func69, Tryz.ntmps69
   go_wp2_with fail
   refine (tOpen l hl _ HG.out).mono ?_
   rintro e w1 hp
   rw [HR.out] at hp
   obtain ⟨rfl, hb1⟩ := hp
   go_wp2_with fail
   go_ret2
   exact ⟨by rw [H.out]; rfl, bl_⟩
 | some s =>
   by_cases ho : s.op.toNat = 80
   · obtain ⟨j, hj, hjr, hjl⟩ := rt_one_kid hr (by simp [arity, ← UInt8.toNat_inj, ho])
     have hjl2 := right_len hjr
     have HKS := Lib.hid hj
     have HR := Lib.hid hr
     have b1 : (((s.op.toNat : Nat) : Int) != 80) = false := by simp [ho]
     cases hbl : Op.bytesLess j k with
     | false =>
       have H : Hid (agreeT k l = twoT 88 k j) := by show agreeT k l = _; simp [agreeT, hr, ho, hj, hbl]
       have HB := Lib.hid (build_two 88 k j)
       clear hr ho hj hjr
       go_enter Tryz.func69, Tryz.ntmps69
       go_wp2_with fail
       refine (tOpen l hl _ HG.out).mono ?_
       rintro e w1 hp
       rw [HR.out] at hp
       obtain ⟨ad, kn, kc, rfl, hown, hb1⟩ := hp
       rw [HKS.out] at hown
       obtain ⟨g, cap, hv, hgb, hgw, hcap, hcap2, hcell⟩ := own_cells hown si_
       injection hv with hv1 hv2 hv3
       subst hv1 hv2 hv3
       have c0 := cell_alloc (hcell 0 (.string (bs j)) rfl) (.cells #[.int .u8 s.op.toNat, .int .i64 (numOf s), .string (bs s.text), .slice (some ⟨g, 0, none⟩) 1 kc] 98)
       have HP := Lib.hid (blk_new w1 (.cells #[.int .u8 s.op.toNat, .int .i64 (numOf s), .string (bs s.text), .slice (some ⟨g, 0, none⟩) 1 kc] 98))
       have HG1 := Lib.hid (gok_alloc (gok_below HG.out hb1) (.cells #[.int .u8 s.op.toNat, .int .i64 (numOf s), .string (bs s.text), .slice (some ⟨g, 0, none⟩) 1 kc] 98))
       have hb2 : Below w.heap.size w (w1.alloc (.cells #[.int .u8 s.op.toNat, .int .i64 (numOf s), .string (bs s.text), .slice (some ⟨g, 0, none⟩) 1 kc] 98)) := bl_
       have HZ : Hid (w1.heap.size + 1 = (w1.alloc (.cells #[.int .u8 s.op.toNat, .int .i64 (numOf s), .string (bs s.text), .slice (some ⟨g, 0, none⟩) 1 kc] 98)).heap.size) := by show _ = _; simp
       clear hcell hown
       go_wp2_with fail
       generalize w1.alloc (.cells #[.int .u8 s.op.toNat, .int .i64 (numOf s), .string (bs s.text), .slice (some ⟨g, 0, none⟩) 1 kc] 98) = v1 at *
       refine (tBuild [88] [k, j] _ _ si_ so_ si_ _ (by have := HZ.out; simp; omega) (two_cells_n HZ.out) (gok_alloc HG1.out _)).mono ?_
       rintro e w2 ⟨rfl, hb3⟩
       go_wp2_with fail
       go_ret2
       exact ⟨by rw [H.out, ← HB.out]; rfl, bl_⟩
     | true =>
       have H : Hid (agreeT k l = twoT 88 j k) := by show agreeT k l = _; simp [agreeT, hr, ho, hj, hbl]
       have HB := Lib.hid (build_two 88 j k)
       clear hr ho hj hjr
       go_enter Tryz.func69, Tryz.ntmps69
       go_wp2_with fail
       refine (tOpen l hl _ HG.out).mono ?_
       rintro e w1 hp
       rw [HR.out] at hp
       obtain ⟨ad, kn, kc, rfl, hown, hb1⟩ := hp
       rw [HKS.out] at hown
       obtain ⟨g, cap, hv, hgb, hgw, hcap, hcap2, hcell⟩ := own_cells hown si_
       injection hv with hv1 hv2 hv3
       subst hv1 hv2 hv3
       have c0 := cell_alloc (hcell 0 (.string (bs j)) rfl) (.cells #[.int .u8 s.op.toNat, .int .i64 (numOf s), .string (bs s.text), .slice (some ⟨g, 0, none⟩) 1 kc] 98)
       have HP := Lib.hid (blk_new w1 (.cells #[.int .u8 s.op.toNat, .int .i64 (numOf s), .string (bs s.text), .slice (some ⟨g, 0, none⟩) 1 kc] 98))
       have HG1 := Lib.hid (gok_alloc (gok_below HG.out hb1) (.cells #[.int .u8 s.op.toNat, .int .i64 (numOf s), .string (bs s.text), .slice (some ⟨g, 0, none⟩) 1 kc] 98))
       have hb2 : Below w.heap.size w (w1.alloc (.cells #[.int .u8 s.op.toNat, .int .i64 (numOf s), .string (bs s.text), .slice (some ⟨g, 0, none⟩) 1 kc] 98)) := bl_
       have HZ : Hid (w1.heap.size + 1 = (w1.alloc (.cells #[.int .u8 s.op.toNat, .int .i64 (numOf s), .string (bs s.text), .slice (some ⟨g, 0, none⟩) 1 kc] 98)).heap.size) := by show _ = _; simp
       clear hcell hown
       go_wp2_with fail
       generalize w1.alloc (.cells #[.int .u8 s.op.toNat, .int .i64 (numOf s), .string (bs s.text), .slice (some ⟨g, 0, none⟩) 1 kc] 98) = v1 at *
       refine (tBuild [88] [j, k] _ _ si_ so_ si_ _ (by have := HZ.out; simp; omega) (two_cells_n HZ.out) (gok_alloc HG1.out _)).mono ?_
       rintro e w2 ⟨rfl, hb3⟩
       go_wp2_with fail
       go_ret2
       exact ⟨by rw [H.out, ← HB.out]; rfl, bl_⟩
   · have H : Hid (agreeT k l = ([], 10)) := by show agreeT k l = _; simp [agreeT, hr, ho]
     have HR := Lib.hid hr
     have b1 : (((s.op.toNat : Nat) : Int) != 80) = true := by simp; omega
     clear hr ho
     go_enter Tryz.func69, Tryz.ntmps69
     go_wp2_with fail
     refine (tOpen l hl _ HG.out).mono ?_
     rintro e w1 hp
     rw [HR.out] at hp
     obtain ⟨ad, kn, kc, rfl, hown, hb1⟩ := hp
     clear hown
     go_wp2_with fail
     go_ret2
     exact ⟨by rw [H.out]; rfl, bl_⟩
theorem tUnbox (k l : List UInt8) (hl : l.length ≤ 9000000000000000000) (w : World) (hG : GOk w) :
  Calls Tryz.prog 95 #[.string (bs k), .string (bs l)] w fun e w' => e = .returned (.tuple #[.string (bs (unboxT k l).1), .bool (unboxT k l).2]) ∧ Below w.heap.size w w' := by
 have HG := Lib.hid hG
 clear hG
 cases hr : rt l with
 | none =>
   have H : Hid (unboxT k l = ([], false)) := by show unboxT k l = _; simp [unboxT, hr]
   have HR := Lib.hid hr
   clear hr
   go_enter Tryz.func95, Tryz.ntmps95
   go_wp2_with fail
   refine (tOpen l hl _ HG.out).mono ?_
   rintro e w1 hp
   rw [HR.out] at hp
   obtain ⟨rfl, hb1⟩ := hp
   go_wp2_with fail
   go_ret2
   exact ⟨by rw [H.out]; rfl, bl_⟩
 | some s =>
   by_cases ho : s.op.toNat = 66
   · obtain ⟨a, b, hj, har, hbr, hal, hbl⟩ := rt_two_kids hr (by simp [arity, ← UInt8.toNat_inj, ho])
     have HKS := Lib.hid hj
     have HR := Lib.hid hr
     have b1 : (((s.op.toNat : Nat) : Int) != 66) = false := by simp [ho]
     by_cases hak : a = k
     · subst hak
       have H : Hid (unboxT a l = (b, true)) := by show unboxT a l = _; simp [unboxT, hr, ho, hj]
       clear hr ho hj har hbr
       go_enter Tryz.func95, Tryz.ntmps95
       go_wp2_with (first | (go_at_call 39; refine (tOpen l hl _ HG.out).mono ?_; rintro e w1 hp; rw [HR.out] at hp; obtain ⟨ad, kn, kc, rfl, hown, hb1⟩ := hp; rw [HKS.out] at hown; obtain ⟨g, cap, hv, hgb, hgw, hcap, hcap2, hcell⟩ := own_cells hown si_; injection hv with hv1 hv2 hv3; subst hv1 hv2 hv3; have c0 := hcell 0 (.string (bs a)) rfl; have c1 := hcell 1 (.string (bs b)) rfl; have HG1 := Lib.hid (gok_below HG.out hb1); clear hcell hown))
       go_ret2
       exact ⟨by rw [H.out]; rfl, bl_⟩
     · have H : Hid (unboxT k l = ([], false)) := by show unboxT k l = _; simp [unboxT, hr, ho, hj, hak]
       have q : (a == k) = false := by simpa using hak
       have q2 : (a != k) = true := by simpa using hak
       clear hr ho hj har hbr
       go_enter Tryz.func95, Tryz.ntmps95
       go_wp2_with (first | (go_at_call 39; refine (tOpen l hl _ HG.out).mono ?_; rintro e w1 hp; rw [HR.out] at hp; obtain ⟨ad, kn, kc, rfl, hown, hb1⟩ := hp; rw [HKS.out] at hown; obtain ⟨g, cap, hv, hgb, hgw, hcap, hcap2, hcell⟩ := own_cells hown si_; injection hv with hv1 hv2 hv3; subst hv1 hv2 hv3; have c0 := hcell 0 (.string (bs a)) rfl; have c1 := hcell 1 (.string (bs b)) rfl; have HG1 := Lib.hid (gok_below HG.out hb1); clear hcell hown))
       go_ret2
       exact ⟨by rw [H.out]; rfl, bl_⟩
   · have H : Hid (unboxT k l = ([], false)) := by show unboxT k l = _; simp [unboxT, hr, ho]
     have HR := Lib.hid hr
     have b1 : (((s.op.toNat : Nat) : Int) != 66) = true := by simp; omega
     clear hr ho
     go_enter Tryz.func95, Tryz.ntmps95
     go_wp2_with fail
     refine (tOpen l hl _ HG.out).mono ?_
     rintro e w1 hp
     rw [HR.out] at hp
     obtain ⟨ad, kn, kc, rfl, hown, hb1⟩ := hp
     clear hown
     go_wp2_with fail
     go_ret2
     exact ⟨by rw [H.out]; rfl, bl_⟩
end Go.Proofs.YtaaiaahkakkleaaGreatDoor
-- SesP
namespace Go.Proofs.YtaaiaahkakkleaaGreatDoor
def mkE (fe g : Int) : Int := if fe = 0 then g else fe
def hashM (fe : Int) (a b : List UInt8) : List UInt8 × Int := ((oneT 72 (tupleT [a, b]).1).1, mkE (mkE fe (tupleT [a, b]).2) (oneT 72 (tupleT [a, b]).1).2)
def agreeM (fe : Int) (k p : List UInt8) : List UInt8 × Int := ((agreeT k p).1, mkE fe (agreeT k p).2)
def boxE : List UInt8 := [116, 48, 58]
def actM (fe : Int) (p k : List UInt8) : List UInt8 × Int := ((tupleT [p, (twoT 66 k boxE).1]).1, mkE (mkE fe (twoT 66 k boxE).2) (tupleT [p, (twoT 66 k boxE).1]).2)
def childM (fe : Int) (k lb : List UInt8) : List UInt8 × Int := ((twoT 68 k (textT lb).1).1, mkE (mkE fe (textT lb).2) (twoT 68 k (textT lb).1).2)
def plainB (p : List UInt8) : Bool := match rt p with | none => false | some s => s.op.toNat == 80
def secretB (k : List UInt8) : List UInt8 × Bool := ((pubT k).1, (pubT k).2 == 0 && plainB (pubT k).1)
def firstB (t : List UInt8) : List UInt8 × Bool :=
 match rt t with
 | none => ([], false)
 | some s => if s.op.toNat = 84 ∧ s.kids.length = 2 ∧ plainB (s.kids.getD 0 []) = true then (s.kids.getD 0 [], true) else ([], false)
def lDial : List UInt8 := [100, 105, 97, 108]
def lListen : List UInt8 := [108, 105, 115, 116, 101, 110]
def lNext : List UInt8 := [110, 101, 120, 116]
def oneM (own drawn t : List UInt8) : Option (List UInt8 × List UInt8) :=
 if (firstB t).2 = false then none else
  let p := (firstB t).1
  let a1 := agreeM 0 own p
  let k1 := hashM a1.2 a1.1 (secretB own).1
  let a2 := agreeM k1.2 drawn p
  let k2 := hashM a2.2 k1.1 a2.1
  let want := actM k2.2 p k1.1
  let say := actM want.2 (secretB drawn).1 k2.1
  if say.2 ≠ 0 ∨ t ≠ want.1 then none else some (k2.1, say.1)
theorem tupleT_len (ls : List (List UInt8)) : (tupleT ls).1.length ≤ 16384 := by
 unfold tupleT
 split
 · simp
 · split
   · exact made_len _
   · simp
theorem oneT_len (c : UInt8) (a : List UInt8) : (oneT c a).1.length ≤ 16384 := by
 unfold oneT
 split
 · exact made_len _
 · simp
theorem pubT_len (a : List UInt8) : (pubT a).1.length ≤ 16384 := by
 unfold pubT
 split
 · exact made_len _
 · simp
theorem hashM_len (fe : Int) (a b : List UInt8) : (hashM fe a b).1.length ≤ 16384 := oneT_len _ _
theorem agreeM_len (fe : Int) (a b : List UInt8) : (agreeM fe a b).1.length ≤ 16384 := agreeT_len _ _
theorem actM_len (fe : Int) (a b : List UInt8) : (actM fe a b).1.length ≤ 16384 := tupleT_len _
theorem childM_len (fe : Int) (a b : List UInt8) : (childM fe a b).1.length ≤ 16384 := twoT_len _ _ _
theorem secretB_len (a : List UInt8) : (secretB a).1.length ≤ 16384 := pubT_len _
theorem firstB_len (t : List UInt8) : (firstB t).1.length ≤ 16384 := by
 unfold firstB
 split
 · simp
 · rename_i s hs
   split
   · rename_i h
     match hk : s.kids, h with
     | [a, b], _ => exact (right_len (rt_kids hs a (by simp [hk])).1).2
     | [], h => simp at h
     | [_], h => simp at h
     | _ :: _ :: _ :: _, h => simp at h
   · simp
end Go.Proofs.YtaaiaahkakkleaaGreatDoor
-- SesQ
namespace Go.Proofs.YtaaiaahkakkleaaGreatDoor
def opensM (fe : Int) (k3 : List UInt8) : (List UInt8 × List UInt8) × Int :=
 (((childM fe k3 lDial).1, (childM (childM fe k3 lDial).2 k3 lListen).1), (childM (childM fe k3 lDial).2 k3 lListen).2)
def twoM (own drawn key t : List UInt8) : Nat × ((List UInt8 × List UInt8) × List UInt8) :=
 if (firstB t).2 = false then (0, (([], []), [])) else
  let p := (firstB t).1
  let a1 := agreeM 0 drawn p
  let k2 := hashM a1.2 key a1.1
  let a2 := agreeM k2.2 own p
  let k3 := hashM a2.2 k2.1 a2.1
  let want := actM k3.2 p k2.1
  let inn := actM want.2 (secretB own).1 k3.1
  let box := twoT 66 k2.1 inn.1
  let o := opensM (mkE inn.2 box.2) k3.1
  if o.2 ≠ 0 then (0, (([], []), [])) else if t ≠ want.1 then (1, (o.1, [])) else (2, (o.1, box.1))
def threeM (drawn key t : List UInt8) : Nat × ((List UInt8 × List UInt8) × List UInt8) :=
 if (firstB (unboxT key t).1).2 = false then (0, (([], []), [])) else
  let inn := (unboxT key t).1
  let p := (firstB inn).1
  let a1 := agreeM 0 drawn p
  let k3 := hashM a1.2 key a1.1
  let want := actM k3.2 p k3.1
  let o := opensM want.2 k3.1
  if o.2 ≠ 0 then (0, (([], []), [])) else if inn ≠ want.1 then (1, (o.1, [])) else (2, (o.1, p))
def pieces : Nat → List UInt8 → List (List UInt8)
 | 0, _ => []
 | n + 1, s => if s = [] then [] else s.take 4096 :: pieces n (s.drop 4096)
def frameL (c : Nat) (s : List UInt8) : List (List UInt8) := textL (Lib.decDigits c) :: (pieces s.length s).map textL
def makeM (key : List UInt8) (c : Nat) (s : List UInt8) : List UInt8 × Int :=
 ((twoT 66 key (tupleT (frameL c s)).1).1, mkE (tupleT (frameL c s)).2 (twoT 66 key (tupleT (frameL c s)).1).2)
def onM (key : List UInt8) (c : Nat) : List UInt8 × Nat := if c + 1 = 100 then ((childM 0 key lNext).1, 0) else (key, c + 1)
def textsM : List (List UInt8) → Option (List UInt8)
 | [] => some []
 | k :: ks =>
   match rt k with
   | none => none
   | some s => if s.op.toNat = 116 then (match textsM ks with | none => none | some r => some (s.text ++ r)) else none
def readM (key : List UInt8) (c : Nat) (t : List UInt8) : Option (List UInt8) :=
 match rt (unboxT key t).1 with
 | none => none
 | some s =>
   if s.op.toNat = 84 ∧ s.kids ≠ [] then
    match textsM s.kids.tail with
    | none => none
    | some x => if (makeM key c x).2 ≠ 0 ∨ (makeM key c x).1 ≠ t then none else some x
   else none
theorem pieces_fuel : ∀ (n m : Nat) (s : List UInt8), s.length ≤ n → s.length ≤ m → pieces n s = pieces m s
 | 0, 0, s, _, _ => rfl
 | 0, m + 1, s, h, _ => by
   have : s = [] := List.length_eq_zero_iff.1 om_
   subst this
   simp [pieces]
 | n + 1, 0, s, _, h => by
   have : s = [] := List.length_eq_zero_iff.1 om_
   subst this
   simp [pieces]
 | n + 1, m + 1, s, h1, h2 => by
   by_cases h : s = []
   · subst h; simp [pieces]
   · have hl : 1 ≤ s.length := by
      cases s with
      | nil => exact absurd rfl h
      | cons _ _ => simp
     simp only [pieces, if_neg h]
     rw [pieces_fuel n m (s.drop 4096) so_ so_]
theorem pieces_each : ∀ (n : Nat) (s : List UInt8), ∀ x ∈ pieces n s, x.length ≤ 4096
 | 0, _ => by simp [pieces]
 | n + 1, s => by
   simp only [pieces]
   split
   · simp
   · intro x hx
     rcases List.mem_cons.1 hx with rfl | hx
     · simp; omega
     · exact pieces_each n _ x hx
def PProg (s : List UInt8) (done : List (List UInt8)) (rest : List UInt8) : Prop := pieces s.length s = done ++ pieces rest.length rest ∧ rest.length ≤ s.length ∧ done.length + rest.length ≤ s.length
theorem pprog_start (s : List UInt8) : PProg s [] s := ⟨rfl, Nat.le_refl _, by simp⟩
theorem pprog_next {s rest : List UInt8} {done : List (List UInt8)} (h : PProg s done rest) (hr : rest ≠ []) : PProg s (done ++ [rest.take 4096]) (rest.drop 4096) := by
 have hl : 1 ≤ rest.length := by
  cases rest with
  | nil => exact absurd rfl hr
  | cons _ _ => simp
 obtain ⟨h1, h2, h3⟩ := h
 refine ⟨?_, by simp; omega, by simp; omega⟩
 rw [h1]
 obtain ⟨m, hm⟩ : ∃ m, rest.length = m + 1 := ⟨rest.length - 1, by omega⟩
 rw [hm]
 simp only [pieces, if_neg hr, List.append_assoc, List.singleton_append]
 rw [pieces_fuel m (rest.drop 4096).length (rest.drop 4096) so_ si_]
theorem pprog_end {s : List UInt8} {done : List (List UInt8)} (h : PProg s done []) : pieces s.length s = done := by
 have := h.1
 simpa [pieces] using this
theorem makeM_len (key : List UInt8) (c : Nat) (s : List UInt8) : (makeM key c s).1.length ≤ 16384 := twoT_len _ _ _
theorem onM_len (key : List UInt8) (c : Nat) (h : key.length ≤ 16384) : (onM key c).1.length ≤ 16384 := by
 unfold onM
 split
 · exact childM_len 0 _ _
 · exact h
theorem opensM_len (fe : Int) (k3 : List UInt8) : (opensM fe k3).1.1.length ≤ 16384 ∧ (opensM fe k3).1.2.length ≤ 16384 := ⟨childM_len fe _ _, childM_len (childM fe k3 lDial).2 _ _⟩
end Go.Proofs.YtaaiaahkakkleaaGreatDoor
-- SesR
namespace Go.Proofs.YtaaiaahkakkleaaGreatDoor
theorem rt_text_len {l : List UInt8} {x : Sh} (h : rt l = some x) : x.text.length ≤ 16384 := by
 obtain ⟨h1, h2, h3⟩ := rt_rd h
 obtain ⟨p1, p2, p3⟩ := rd_parts h1
 by_cases ha : x.op.toNat = 110
 · rw [(p1 ha).1]; simp
 · by_cases hb : x.op.toNat = 116
   · rw [(p2 hb).2.2]; simp; omega
   · rw [(p3 ha hb).1]; simp
def TProg (tl : List (List UInt8)) (k : Nat) (acc : List UInt8) : Prop := textsM tl = (textsM (tl.drop k)).map (acc ++ ·)
theorem tprog_start (tl : List (List UInt8)) : TProg tl 0 [] := by
 unfold TProg
 simp
theorem tprog_next {tl : List (List UInt8)} {k : Nat} {acc a : List UInt8} {s : Sh} (h : TProg tl k acc) (ha : tl[k]? = some a) (hs : rt a = some s) (ho : s.op.toNat = 116) : TProg tl (k + 1) (acc ++ s.text) := by
 unfold TProg at *
 rw [h]
 have hk := (List.getElem?_eq_some_iff.1 ha)
 obtain ⟨hlt, he⟩ := hk
 rw [List.drop_eq_getElem_cons hlt, he]
 simp only [textsM, hs, ho, if_true]
 cases textsM (tl.drop (k + 1)) <;> simp
theorem tprog_bad {tl : List (List UInt8)} {k : Nat} {acc a : List UInt8} (h : TProg tl k acc) (ha : tl[k]? = some a) (hb : ∀ s, rt a = some s → s.op.toNat ≠ 116) : textsM tl = none := by
 unfold TProg at h
 rw [h]
 obtain ⟨hlt, he⟩ := List.getElem?_eq_some_iff.1 ha
 rw [List.drop_eq_getElem_cons hlt, he]
 simp only [textsM]
 cases hr : rt a with
 | none => simp
 | some s => simp [hb s hr]
theorem tprog_end {tl : List (List UInt8)} {acc : List UInt8} (h : TProg tl tl.length acc) : textsM tl = some acc := by
 unfold TProg at h
 rw [h]
 simp [textsM]
theorem readM_none {key : List UInt8} {c : Nat} {t u : List UInt8} {b : Bool} (hu : unboxT key t = (u, b)) (h : rt u = none) : readM key c t = none := by
 unfold readM; rw [hu]; simp [h]
theorem readM_op {key : List UInt8} {c : Nat} {t u : List UInt8} {b : Bool} {s : Sh} (hu : unboxT key t = (u, b)) (h : rt u = some s) (ho : s.op.toNat ≠ 84 ∨ s.kids = []) : readM key c t = none := by
 unfold readM; rw [hu]
 simp only [h]
 rw [if_neg]
 rintro ⟨h1, h2⟩
 rcases ho with ho | ho
 · exact ho h1
 · exact h2 ho
theorem readM_kids {key : List UInt8} {c : Nat} {t u k0 : List UInt8} {tl : List (List UInt8)} {b : Bool} {s : Sh} (hu : unboxT key t = (u, b)) (h : rt u = some s) (ho : s.op.toNat = 84) (hk : s.kids = k0 :: tl) :
  readM key c t = match textsM tl with | none => none | some x => if (makeM key c x).2 ≠ 0 ∨ (makeM key c x).1 ≠ t then none else some x := by
 unfold readM; rw [hu]
 simp only [h]
 rw [if_pos ⟨ho, by rw [hk]; simp⟩, hk]
 rfl
end Go.Proofs.YtaaiaahkakkleaaGreatDoor
-- SesA
namespace Go.Proofs.YtaaiaahkakkleaaGreatDoor
open Go.RowKit
def MkAt (w : World) (M : Nat) (fe : Int) : Prop := w.heap[M]? = some (.cells #[.int .i64 fe] 106 (0, 0))
theorem mkat_below {w w' : World} {M : Nat} {fe : Int} (h : MkAt w M fe) (hb : Below w.heap.size w w') : MkAt w' M fe := blk_below h hb (blk_lt h)
theorem mkat_alloc {w : World} {M : Nat} {fe : Int} (h : MkAt w M fe) (o : Obj) : MkAt (w.alloc o) M fe := blk_alloc h o
def MkPost (M : Nat) (w : World) (r : List UInt8 × Int) (e : Ending) (w' : World) : Prop := e = .returned (.string (bs r.1)) ∧ MkAt w' M r.2 ∧ GL [M] w w'
theorem mTake (t : List UInt8) (fe g : Int) (M : Nat) (w : World) (hM : MkAt w M fe) :
  Calls Tryz.prog 56 #[.pointer (some ⟨M, 0, none⟩), .string (bs t), .int .i64 g] w (MkPost M w (t, mkE fe g)) := by
 have f0 := blk_cell hM
 have f1 := blk_free hM
 have HM := Lib.hid hM
 clear hM
 by_cases h : fe = 0
 · have H : Hid (mkE fe g = g) := by show mkE fe g = g; simp [mkE, h]
   have b1 : (fe == 0) = true := by simp [h]
   clear h
   go_enter Tryz.func56, Tryz.ntmps56
   go_wp2
   go_ret
   exact ⟨rfl, by rw [H.out]; exact blk_set HM.out 0 _, gl_⟩
 · have H : Hid (mkE fe g = fe) := by show mkE fe g = fe; simp [mkE, h]
   have b1 : (fe == 0) = false := by simp [h]
   clear h
   go_enter Tryz.func56, Tryz.ntmps56
   go_wp2
   go_ret
   exact ⟨rfl, by rw [H.out]; exact HM.out, gl_⟩
theorem mHash (a b : List UInt8) (ha : a.length ≤ 9000000000000000000) (hb : b.length ≤ 9000000000000000000) (fe : Int) (M : Nat) (hMg : gN ≤ M) (w : World) (hM : MkAt w M fe) (hG : GOk w) :
  Calls Tryz.prog 45 #[.pointer (some ⟨M, 0, none⟩), .string (bs a), .string (bs b)] w (MkPost M w (hashM fe a b)) := by
 obtain ⟨r, g, hr⟩ : ∃ r g, tupleT [a, b] = (r, g) := ⟨_, _, rfl⟩
 obtain ⟨r2, g2, hr2⟩ : ∃ r2 g2, oneT 72 r = (r2, g2) := ⟨_, _, rfl⟩
 have H : Hid (hashM fe a b = (r2, mkE (mkE fe g) g2)) := by show hashM fe a b = _; simp [hashM, hr, hr2]
 have hrl : r.length ≤ 9000000000000000000 := by have := tupleT_len [a, b]; rw [hr] at this; simp at this; omega
 have HR := Lib.hid hr
 have HR2 := Lib.hid hr2
 have HM := Lib.hid hM
 have HG := Lib.hid hG
 have hlt := blk_lt hM
 clear hr hr2 hM hG
 go_enter Tryz.func45, Tryz.ntmps45
 go_wp2_with fail
 refine (tMkTuple [a, b] _ _ so_ si_ _ si_ two_cells (gok_alloc HG.out _)).mono ?_
 rintro e w1 ⟨rfl, hb1⟩
 rw [HR.out]
 have HM1 := Lib.hid (mkat_below (mkat_alloc HM.out (.cells #[.string (bs a), .string (bs b)] 22)) hb1)
 have HG1 := Lib.hid (gok_below (gok_alloc HG.out _) hb1)
 have hg1 : GL [M] w w1 := gl_below hb1 (gl_alloc (gl_refl _ _) _)
 go_wp2_with fail
 refine (mTake r fe g M _ HM1.out).mono ?_
 rintro e w2 ⟨rfl, hm2, hl2⟩
 have HM2 := Lib.hid hm2
 have HG2 := Lib.hid (gok_gl HG1.out hl2 (by simpa using hMg))
 have hg2 : GL [M] w w2 := gl_step hl2 hg1 si_
 clear hm2
 go_wp2_with fail
 refine (tHash r hrl _ HG2.out).mono ?_
 rintro e w3 ⟨rfl, hb3⟩
 rw [HR2.out]
 have HM3 := Lib.hid (mkat_below HM2.out hb3)
 have hg3 : GL [M] w w3 := gl_below hb3 hg2
 go_wp2_with fail
 refine (mTake r2 _ g2 M _ HM3.out).mono ?_
 rintro e w4 ⟨rfl, hm4, hl4⟩
 have HM4 := Lib.hid hm4
 clear hm4
 have hg4 : GL [M] w w4 := gl_step hl4 hg3 si_
 go_wp2_with fail
 go_ret
 exact ⟨by rw [H.out]; rfl, by rw [H.out]; exact HM4.out, hg4⟩
theorem mAgree (a b : List UInt8) (ha : a.length ≤ 9000000000000000000) (hb : b.length ≤ 9000000000000000000) (fe : Int) (M : Nat) (hMg : gN ≤ M) (w : World) (hM : MkAt w M fe) (hG : GOk w) :
  Calls Tryz.prog 46 #[.pointer (some ⟨M, 0, none⟩), .string (bs a), .string (bs b)] w (MkPost M w (agreeM fe a b)) := by
 obtain ⟨r, g, hr⟩ : ∃ r g, agreeT a b = (r, g) := ⟨_, _, rfl⟩
 have H : Hid (agreeM fe a b = (r, mkE fe g)) := by show agreeM fe a b = _; simp [agreeM, hr]
 have HR := Lib.hid hr
 have HM := Lib.hid hM
 have HG := Lib.hid hG
 clear hr hM hG
 go_enter Tryz.func46, Tryz.ntmps46
 go_wp2_with fail
 refine (tAgree a b ha hb _ HG.out).mono ?_
 rintro e w1 ⟨rfl, hb1⟩
 rw [HR.out]
 have HM1 := Lib.hid (mkat_below HM.out hb1)
 have hg1 : GL [M] w w1 := gl_below hb1 (gl_refl _ _)
 go_wp2_with fail
 refine (mTake r fe g M _ HM1.out).mono ?_
 rintro e w2 ⟨rfl, hm2, hl2⟩
 have HM2 := Lib.hid hm2
 clear hm2
 have hg2 : GL [M] w w2 := gl_step hl2 hg1 si_
 go_wp2_with fail
 go_ret
 exact ⟨by rw [H.out]; rfl, by rw [H.out]; exact HM2.out, hg2⟩
theorem mAct (p k : List UInt8) (ha : p.length ≤ 9000000000000000000) (hb : k.length ≤ 9000000000000000000) (fe : Int) (M : Nat) (hMg : gN ≤ M) (w : World) (hM : MkAt w M fe) (hG : GOk w) :
  Calls Tryz.prog 47 #[.pointer (some ⟨M, 0, none⟩), .string (bs p), .string (bs k)] w (MkPost M w (actM fe p k)) := by
 obtain ⟨r, g, hr⟩ : ∃ r g, twoT 66 k boxE = (r, g) := ⟨_, _, rfl⟩
 obtain ⟨r2, g2, hr2⟩ : ∃ r2 g2, tupleT [p, r] = (r2, g2) := ⟨_, _, rfl⟩
 have H : Hid (actM fe p k = (r2, mkE (mkE fe g) g2)) := by show actM fe p k = _; simp [actM, hr, hr2]
 have hrl : r.length ≤ 9000000000000000000 := by have := twoT_len 66 k boxE; rw [hr] at this; simp at this; omega
 have HR := Lib.hid hr
 have HR2 := Lib.hid hr2
 have HM := Lib.hid hM
 have HG := Lib.hid hG
 clear hr hr2 hM hG
 go_enter Tryz.func47, Tryz.ntmps47
 go_wp2_with fail
 refine (tBox k boxE hb de_ _ HG.out).mono ?_
 rintro e w1 ⟨rfl, hb1⟩
 rw [HR.out]
 have HM1 := Lib.hid (mkat_below HM.out hb1)
 have HG1 := Lib.hid (gok_below HG.out hb1)
 have hg1 : GL [M] w w1 := gl_below hb1 (gl_refl _ _)
 go_wp2_with fail
 refine (mTake r fe g M _ HM1.out).mono ?_
 rintro e w2 ⟨rfl, hm2, hl2⟩
 have HM2 := Lib.hid hm2
 have HG2 := Lib.hid (gok_gl HG1.out hl2 (by simpa using hMg))
 have hg2 : GL [M] w w2 := gl_step hl2 hg1 si_
 clear hm2
 go_wp2_with fail
 refine (tMkTuple [p, r] _ _ so_ si_ _ si_ two_cells (gok_alloc HG2.out _)).mono ?_
 rintro e w3 ⟨rfl, hb3⟩
 rw [HR2.out]
 have HM3 := Lib.hid (mkat_below (mkat_alloc HM2.out (.cells #[.string (bs p), .string (bs r)] 22)) hb3)
 have hg3 : GL [M] w w3 := gl_below hb3 (gl_alloc hg2 _)
 go_wp2_with fail
 refine (mTake r2 _ g2 M _ HM3.out).mono ?_
 rintro e w4 ⟨rfl, hm4, hl4⟩
 have HM4 := Lib.hid hm4
 clear hm4
 have hg4 : GL [M] w w4 := gl_step hl4 hg3 si_
 go_wp2_with fail
 go_ret
 exact ⟨by rw [H.out]; rfl, by rw [H.out]; exact HM4.out, hg4⟩
theorem mChild (k lb : List UInt8) (ha : k.length ≤ 9000000000000000000) (hb : lb.length ≤ 9000000000000000000) (fe : Int) (M : Nat) (hMg : gN ≤ M) (w : World) (hM : MkAt w M fe) (hG : GOk w) :
  Calls Tryz.prog 61 #[.pointer (some ⟨M, 0, none⟩), .string (bs k), .string (bs lb)] w (MkPost M w (childM fe k lb)) := by
 obtain ⟨r, g, hr⟩ : ∃ r g, textT lb = (r, g) := ⟨_, _, rfl⟩
 obtain ⟨r2, g2, hr2⟩ : ∃ r2 g2, twoT 68 k r = (r2, g2) := ⟨_, _, rfl⟩
 have H : Hid (childM fe k lb = (r2, mkE (mkE fe g) g2)) := by show childM fe k lb = _; simp [childM, hr, hr2]
 have hrl : r.length ≤ 9000000000000000000 := by
  have e : (textT lb).1 = r := by rw [hr]
  rw [← e]
  unfold textT
  split
  · simp
  · have := dec_len20 lb.length om_
    simp; omega
 have HR := Lib.hid hr
 have HR2 := Lib.hid hr2
 have HM := Lib.hid hM
 have HG := Lib.hid hG
 clear hr hr2 hM hG
 go_enter Tryz.func61, Tryz.ntmps61
 go_wp2_with fail
 refine (tMkText lb hb _ HG.out).mono ?_
 rintro e w1 ⟨rfl, hb1⟩
 rw [HR.out]
 have HM1 := Lib.hid (mkat_below HM.out hb1)
 have HG1 := Lib.hid (gok_below HG.out hb1)
 have hg1 : GL [M] w w1 := gl_below hb1 (gl_refl _ _)
 go_wp2_with fail
 refine (mTake r fe g M _ HM1.out).mono ?_
 rintro e w2 ⟨rfl, hm2, hl2⟩
 have HM2 := Lib.hid hm2
 have HG2 := Lib.hid (gok_gl HG1.out hl2 (by simpa using hMg))
 have hg2 : GL [M] w w2 := gl_step hl2 hg1 si_
 clear hm2
 go_wp2_with fail
 refine (tChild k r ha hrl _ HG2.out).mono ?_
 rintro e w3 ⟨rfl, hb3⟩
 rw [HR2.out]
 have HM3 := Lib.hid (mkat_below HM2.out hb3)
 have hg3 : GL [M] w w3 := gl_below hb3 hg2
 go_wp2_with fail
 refine (mTake r2 _ g2 M _ HM3.out).mono ?_
 rintro e w4 ⟨rfl, hm4, hl4⟩
 have HM4 := Lib.hid hm4
 clear hm4
 have hg4 : GL [M] w w4 := gl_step hl4 hg3 si_
 go_wp2_with fail
 go_ret
 exact ⟨by rw [H.out]; rfl, by rw [H.out]; exact HM4.out, hg4⟩
theorem sPlain (p : List UInt8) (hl : p.length ≤ 9000000000000000000) (w : World) (hG : GOk w) :
  Calls Tryz.prog 44 #[.string (bs p)] w fun e w' => e = .returned (.bool (plainB p)) ∧ Below w.heap.size w w' := by
 cases hr : rt p with
 | none =>
   have H : Hid (plainB p = false) := by show plainB p = _; simp [plainB, hr]
   have HR := Lib.hid hr
   clear hr
   go_enter Tryz.func44, Tryz.ntmps44
   go_wp2_with fail
   refine (tOpen p hl _ hG).mono ?_
   rintro e w1 hp
   rw [HR.out] at hp
   obtain ⟨rfl, hb1⟩ := hp
   go_wp2_with fail
   go_ret
   exact ⟨by rw [H.out]; rfl, bl_⟩
 | some s =>
   have H : Hid (plainB p = (s.op.toNat == 80)) := by show plainB p = _; simp [plainB, hr]
   have HR := Lib.hid hr
   clear hr
   go_enter Tryz.func44, Tryz.ntmps44
   go_wp2_with fail
   refine (tOpen p hl _ hG).mono ?_
   rintro e w1 hp
   rw [HR.out] at hp
   obtain ⟨ad, kn, kc, rfl, hown, hb1⟩ := hp
   clear hown
   go_wp2_with fail
   go_ret
   exact ⟨by rw [H.out]; (refine congrArg (fun b : Bool => Ending.returned (.bool b)) ?_; rw [Bool.eq_iff_iff]; simp only [beq_iff_eq, beq_eq_false_iff_ne, bne_iff_ne, bne_eq_false_iff_eq, ne_eq, Bool.or_eq_true, Bool.and_eq_true, Bool.not_eq_true', decide_eq_true_eq, decide_eq_false_iff_not, Bool.or_eq_false_iff, Bool.and_eq_false_iff, eq_self, true_iff, iff_true, Bool.false_eq_true, Bool.true_eq_false, false_iff, iff_false] at *; omega), bl_⟩
theorem sSecretB (k : List UInt8) (hl : k.length ≤ 9000000000000000000) (w : World) (hG : GOk w) :
  Calls Tryz.prog 42 #[.string (bs k)] w fun e w' => e = .returned (.tuple #[.string (bs (secretB k).1), .bool (secretB k).2]) ∧ Below w.heap.size w w' := by
 obtain ⟨r, g, hr⟩ : ∃ r g, pubT k = (r, g) := ⟨_, _, rfl⟩
 have hrl : r.length ≤ 9000000000000000000 := by have := pubT_len k; rw [hr] at this; simp at this; omega
 by_cases h : g = 0
 · have H : Hid (secretB k = (r, plainB r)) := by show secretB k = _; simp [secretB, hr, h]
   have b1 : (g == 0) = true := by simp [h]
   have HR := Lib.hid hr
   clear h hr
   go_enter Tryz.func42, Tryz.ntmps42
   go_wp2_with fail
   refine (tPub k hl _ hG).mono ?_
   rintro e w1 ⟨rfl, hb1⟩
   rw [HR.out]
   go_wp2_with fail
   refine (sPlain r hrl _ (gok_below hG hb1)).mono ?_
   rintro e w2 ⟨rfl, hb2⟩
   go_wp2_with fail
   go_ret2
   exact ⟨by rw [H.out]; rfl, bl_⟩
 · have H : Hid (secretB k = (r, false)) := by show secretB k = _; simp [secretB, hr, h]
   have b1 : (g == 0) = false := by simp [h]
   have HR := Lib.hid hr
   clear h hr
   go_enter Tryz.func42, Tryz.ntmps42
   go_wp2_with fail
   refine (tPub k hl _ hG).mono ?_
   rintro e w1 ⟨rfl, hb1⟩
   rw [HR.out]
   go_wp2_with fail
   go_ret2
   exact ⟨by rw [H.out]; rfl, bl_⟩
theorem sFirst (t : List UInt8) (hl : t.length ≤ 9000000000000000000) (w : World) (hG : GOk w) :
  Calls Tryz.prog 66 #[.string (bs t)] w fun e w' => e = .returned (.tuple #[.string (bs (firstB t).1), .bool (firstB t).2]) ∧ Below w.heap.size w w' := by
 have HG := Lib.hid hG
 clear hG
 cases hr : rt t with
 | none =>
   have H : Hid (firstB t = ([], false)) := by show firstB t = _; simp [firstB, hr]
   have HR := Lib.hid hr
   clear hr
   go_enter Tryz.func66, Tryz.ntmps66
   go_wp2_with fail
   refine (tOpen t hl _ HG.out).mono ?_
   rintro e w1 hp
   rw [HR.out] at hp
   obtain ⟨rfl, hb1⟩ := hp
   go_wp2_with fail
   go_ret2
   exact ⟨by rw [H.out]; rfl, bl_⟩
 | some s =>
   have HR := Lib.hid hr
   by_cases ho : s.op.toNat = 84
   · have b1 : (((s.op.toNat : Nat) : Int) != 84) = false := by simp [ho]
     by_cases hk : s.kids.length = 2
     · obtain ⟨a, b, hab⟩ : ∃ a b, s.kids = [a, b] := by
        match hkk : s.kids, hk with
        | [a, b], _ => exact ⟨a, b, rfl⟩
       have hal := right_len (rt_kids hr a (by simp [hab])).1
       have HKS := Lib.hid hab
       have H : Hid (firstB t = if plainB a = true then (a, true) else ([], false)) := by show firstB t = _; simp [firstB, hr, ho, hab]
       cases hp : plainB a
       all_goals
        have HPL := Lib.hid hp
        clear hr ho hk hab hp
        go_enter Tryz.func66, Tryz.ntmps66
        go_wp2_with (first | (go_at_call 39; refine (tOpen t hl _ HG.out).mono ?_; rintro e w1 hp; rw [HR.out] at hp; obtain ⟨ad, kn, kc, rfl, hown, hb1⟩ := hp; rw [HKS.out] at hown; obtain ⟨g, cap, hv, hgb, hgw, hcap, hcap2, hcell⟩ := own_cells hown si_; injection hv with hv1 hv2 hv3; subst hv1 hv2 hv3; have c0 := hcell 0 (.string (bs a)) rfl; have HC0 := Lib.hid c0; have HG1 := Lib.hid (gok_below HG.out hb1); clear hcell hown) | (go_at_call 44; refine (sPlain a om_ _ (gok_alloc HG1.out _)).mono ?_; rintro e w2 ⟨rfl, hb2⟩; rw [HPL.out]; have HS2 := blk_below (blk_new w1 _) hb2 si_; have f2 := blk_cell HS2; have f3 := blk_free HS2; have c2 := cell_below (cell_alloc HC0.out _) hb2))
        go_ret2
        exact ⟨by rw [H.out, HPL.out]; rfl, bl_⟩
     · have H : Hid (firstB t = ([], false)) := by show firstB t = _; simp [firstB, hr, ho, hk]
       have hk2 : ∀ (ad : Option Addr) (kn kc : Nat) (w0 w1 : World), w1.ownsRow w0.heap.size 22 1 (.slice ad kn kc) s.kids.length (s.kids.map fun k => .string (bs k)) → (((kn : Nat) : Int) != 2) = true := by
        intro ad kn kc w0 w1 ho
        have := own_len ho
        simp; omega
       clear hr ho hk
       go_enter Tryz.func66, Tryz.ntmps66
       go_wp2_with fail
       refine (tOpen t hl _ HG.out).mono ?_
       rintro e w1 hp
       rw [HR.out] at hp
       obtain ⟨ad, kn, kc, rfl, hown, hb1⟩ := hp
       have b2 := hk2 _ _ _ _ _ hown
       clear hown hk2
       go_wp2_with fail
       go_ret2
       exact ⟨by rw [H.out]; rfl, bl_⟩
   · have H : Hid (firstB t = ([], false)) := by show firstB t = _; simp [firstB, hr, ho]
     have b1 : (((s.op.toNat : Nat) : Int) != 84) = true := by simp; omega
     clear hr ho
     go_enter Tryz.func66, Tryz.ntmps66
     go_wp2_with fail
     refine (tOpen t hl _ HG.out).mono ?_
     rintro e w1 hp
     rw [HR.out] at hp
     obtain ⟨ad, kn, kc, rfl, hown, hb1⟩ := hp
     clear hown
     go_wp2_with fail
     go_ret2
     exact ⟨by rw [H.out]; rfl, bl_⟩
end Go.Proofs.YtaaiaahkakkleaaGreatDoor
-- SesB
namespace Go.Proofs.YtaaiaahkakkleaaGreatDoor
open Go.RowKit
def SesAt (w : World) (X : Nat) (own drawn peer : List UInt8) (dials opn closed : Bool) (key okey : List UInt8) (oc : Int) (ikey : List UInt8) (ic : Int) (nx : Value) : Prop :=
 w.heap[X]? = some (.cells #[.string (bs own), .string (bs drawn), .string (bs peer), .bool dials, .bool opn, .bool closed, .string (bs key), .string (bs okey), .int .i64 oc, .string (bs ikey), .int .i64 ic, nx] 90 (0, 0))
def dialM (own drawn peer : List UInt8) : (List UInt8 × List UInt8) × Int :=
 if (secretB own).2 = false ∨ (secretB drawn).2 = false ∨ plainB peer = false then (([], []), 10) else
  let a1 := agreeM 0 drawn peer
  let k1 := hashM a1.2 a1.1 peer
  let act := actM k1.2 (secretB drawn).1 k1.1
  if act.2 ≠ 0 then (([], []), 3) else ((k1.1, act.1), 0)
def DialPost (own drawn peer : List UInt8) (w : World) (r : (List UInt8 × List UInt8) × Int) (e : Ending) (w' : World) : Prop :=
 if r.2 = 0 then ∃ X, w.heap.size ≤ X ∧ e = .returned (.tuple #[.pointer (some ⟨X, 0, none⟩), .string (bs r.1.2), .int .i64 0]) ∧
  SesAt w' X own drawn peer true false false r.1.1 [] 0 [] 0 (.func (.func 48) #[.pointer (some ⟨X, 0, none⟩)] #[]) ∧ Below w.heap.size w w'
 else e = .returned (.tuple #[.pointer none, .string (bs []), .int .i64 r.2]) ∧ Below w.heap.size w w'
def ListenPost (own drawn : List UInt8) (w : World) (e : Ending) (w' : World) : Prop :=
 if (secretB own).2 = true ∧ (secretB drawn).2 = true then ∃ X, w.heap.size ≤ X ∧ e = .returned (.tuple #[.pointer (some ⟨X, 0, none⟩), .int .i64 0]) ∧
  SesAt w' X own drawn [] false false false [] [] 0 [] 0 (.func (.func 43) #[.pointer (some ⟨X, 0, none⟩)] #[]) ∧ Below w.heap.size w w'
 else e = .returned (.tuple #[.pointer none, .int .i64 10]) ∧ Below w.heap.size w w'
theorem sListen (own drawn : List UInt8) (ho : own.length ≤ 9000000000000000000) (hd : drawn.length ≤ 9000000000000000000) (w : World) (hG : GOk w) :
  Calls Tryz.prog 25 #[.string (bs own), .string (bs drawn)] w (ListenPost own drawn w) := by
 obtain ⟨so, bo, h1⟩ : ∃ s b, secretB own = (s, b) := ⟨_, _, rfl⟩
 obtain ⟨sd, bd, h2⟩ : ∃ s b, secretB drawn = (s, b) := ⟨_, _, rfl⟩
 have H1 := Lib.hid h1
 have H2 := Lib.hid h2
 have HG := Lib.hid hG
 clear h1 h2 hG
 cases bo with
 | false =>
   go_enter Tryz.func25, Tryz.ntmps25
   go_wp2_with fail
   refine (sSecretB own ho _ HG.out).mono ?_
   rintro e w1 ⟨rfl, hb1⟩
   rw [H1.out]
   go_wp2_with fail
   refine (sSecretB drawn hd _ (gok_below HG.out hb1)).mono ?_
   rintro e w2 ⟨rfl, hb2⟩
   rw [H2.out]
   go_wp2_with fail
   go_ret2
   unfold ListenPost
   rw [if_neg (by rw [H1.out]; simp)]
   exact ⟨rfl, bl_⟩
 | true =>
   cases bd with
   | false =>
     go_enter Tryz.func25, Tryz.ntmps25
     go_wp2_with fail
     refine (sSecretB own ho _ HG.out).mono ?_
     rintro e w1 ⟨rfl, hb1⟩
     rw [H1.out]
     go_wp2_with fail
     refine (sSecretB drawn hd _ (gok_below HG.out hb1)).mono ?_
     rintro e w2 ⟨rfl, hb2⟩
     rw [H2.out]
     go_wp2_with fail
     go_ret2
     unfold ListenPost
     rw [if_neg (by rw [H2.out]; simp)]
     exact ⟨rfl, bl_⟩
   | true =>
     go_enter Tryz.func25, Tryz.ntmps25
     go_wp2_with fail
     refine (sSecretB own ho _ HG.out).mono ?_
     rintro e w1 ⟨rfl, hb1⟩
     rw [H1.out]
     go_wp2_with fail
     refine (sSecretB drawn hd _ (gok_below HG.out hb1)).mono ?_
     rintro e w2 ⟨rfl, hb2⟩
     rw [H2.out]
     go_wp2_with fail
     go_ret2
     unfold ListenPost
     rw [if_pos (by rw [H1.out, H2.out]; simp)]
     refine ⟨w2.heap.size, ?_, rfl, ?_, bl_⟩
     · have := hb1.size; have := hb2.size; omega
     · exact blk_new w2 _
theorem sDial (own drawn peer : List UInt8) (ho : own.length ≤ 9000000000000000000) (hd : drawn.length ≤ 9000000000000000000) (hp : peer.length ≤ 9000000000000000000) (w : World) (hG : GOk w) :
  Calls Tryz.prog 26 #[.string (bs own), .string (bs drawn), .string (bs peer)] w (DialPost own drawn peer w (dialM own drawn peer)) := by
 obtain ⟨so, bo, h1⟩ : ∃ s b, secretB own = (s, b) := ⟨_, _, rfl⟩
 obtain ⟨sd, bd, h2⟩ : ∃ s b, secretB drawn = (s, b) := ⟨_, _, rfl⟩
 have hsd : sd.length ≤ 9000000000000000000 := by have := secretB_len drawn; rw [h2] at this; simp at this; omega
 have H1 := Lib.hid h1
 have H2 := Lib.hid h2
 have HG0 := Lib.hid hG
 clear h1 h2 hG
 by_cases hbad : bo = false ∨ bd = false ∨ plainB peer = false
 · have H : Hid (dialM own drawn peer = (([], []), 10)) := by show dialM _ _ _ = _; unfold dialM; rw [H1.out, H2.out, if_pos hbad]
   have hs := HG0.out.size
   cases bo with
   | false =>
     clear hbad
     go_enter Tryz.func26, Tryz.ntmps26
     go_wp2_with fail
     refine (sSecretB own ho _ HG0.out).mono ?_
     rintro e w1 ⟨rfl, hb1⟩
     rw [H1.out]
     go_wp2_with fail
     refine (sSecretB drawn hd _ (gok_below HG0.out hb1)).mono ?_
     rintro e w2 ⟨rfl, hb2⟩
     rw [H2.out]
     go_wp2_with fail
     go_ret3
     rw [H.out]
     exact ⟨rfl, bl_⟩
   | true =>
     cases bd with
     | false =>
       clear hbad
       go_enter Tryz.func26, Tryz.ntmps26
       go_wp2_with fail
       refine (sSecretB own ho _ HG0.out).mono ?_
       rintro e w1 ⟨rfl, hb1⟩
       rw [H1.out]
       go_wp2_with fail
       refine (sSecretB drawn hd _ (gok_below HG0.out hb1)).mono ?_
       rintro e w2 ⟨rfl, hb2⟩
       rw [H2.out]
       go_wp2_with fail
       go_ret3
       rw [H.out]
       exact ⟨rfl, bl_⟩
     | true =>
       have HPL : Hid (plainB peer = false) := by show _ = _; simpa using hbad
       clear hbad
       go_enter Tryz.func26, Tryz.ntmps26
       go_wp2_with fail
       refine (sSecretB own ho _ HG0.out).mono ?_
       rintro e w1 ⟨rfl, hb1⟩
       rw [H1.out]
       go_wp2_with fail
       refine (sSecretB drawn hd _ (gok_below HG0.out hb1)).mono ?_
       rintro e w2 ⟨rfl, hb2⟩
       rw [H2.out]
       go_wp2_with fail
       refine (sPlain peer hp _ (gok_below (gok_below HG0.out hb1) hb2)).mono ?_
       rintro e w3 ⟨rfl, hb3⟩
       rw [HPL.out]
       go_wp2_with fail
       go_ret3
       rw [H.out]
       exact ⟨rfl, bl_⟩
 · obtain ⟨rfl, rfl, hpl⟩ : bo = true ∧ bd = true ∧ plainB peer = true := by simpa using hbad
   have HPL := Lib.hid hpl
   obtain ⟨x1, g1, e1⟩ : ∃ x g, agreeM 0 drawn peer = (x, g) := ⟨_, _, rfl⟩
   obtain ⟨k1, g2, e2⟩ : ∃ x g, hashM g1 x1 peer = (x, g) := ⟨_, _, rfl⟩
   obtain ⟨a1, g3, e3⟩ : ∃ x g, actM g2 sd k1 = (x, g) := ⟨_, _, rfl⟩
   have hx1 : x1.length ≤ 9000000000000000000 := by have := agreeM_len 0 drawn peer; rw [e1] at this; simp at this; omega
   have hk1 : k1.length ≤ 9000000000000000000 := by have := hashM_len g1 x1 peer; rw [e2] at this; simp at this; omega
   have H : Hid (dialM own drawn peer = if g3 ≠ 0 then (([], []), 3) else ((k1, a1), 0)) := by
    show dialM _ _ _ = _
    unfold dialM
    rw [H1.out, H2.out, hpl, if_neg si_]
    simp only [e1, e2, e3]
   have E1 := Lib.hid e1
   have E2 := Lib.hid e2
   have E3 := Lib.hid e3
   have hs := HG0.out.size
   clear hbad hpl e1 e2 e3
   go_enter Tryz.func26, Tryz.ntmps26
   have hg0 : GL [] w w := gl_refl _ _
   have hs0 : w.heap.size ≤ w.heap.size := Nat.le_refl _
   go_wp2_with fail
   refine (sSecretB own ho _ HG0.out).mono ?_
   rintro e w1 ⟨rfl, hb1⟩
   rw [H1.out]
   have HG1 := Lib.hid (gok_below HG0.out hb1)
   have hg1 : GL [] w w1 := gl_below hb1 hg0
   have hs1 := hg1.size
   go_wp2_with fail
   refine (sSecretB drawn hd _ HG1.out).mono ?_
   rintro e w2 ⟨rfl, hb2⟩
   rw [H2.out]
   have HG2 := Lib.hid (gok_below HG1.out hb2)
   have hg2 : GL [] w w2 := gl_below hb2 hg1
   have hs2 := hg2.size
   go_wp2_with fail
   refine (sPlain peer hp _ HG2.out).mono ?_
   rintro e w3 ⟨rfl, hb3⟩
   rw [HPL.out]
   have HG3 := Lib.hid (gok_below HG2.out hb3)
   have hg3 : GL [] w w3 := gl_below hb3 hg2
   have hs3 := hg3.size
   go_wp2_with fail
   have HM5 : Hid (((w3.alloc (.cells #[.int .i64 0] 106)).alloc (.cells #[.string (bs own), .string (bs drawn), .string (bs peer), .bool true, .bool false, .bool false, .string (bs []), .string (bs []), .int .i64 0, .string (bs []), .int .i64 0, .nilFunc] 90)).heap[w3.heap.size]? = some (.cells #[.int .i64 0] 106 (0, 0))) := by
    have h := blk_new w3 (.cells #[.int .i64 0] 106)
    exact (blk_alloc h (.cells #[.string (bs own), .string (bs drawn), .string (bs peer), .bool true, .bool false, .bool false, .string (bs []), .string (bs []), .int .i64 0, .string (bs []), .int .i64 0, .nilFunc] 90))
   have HX5 : Hid (((w3.alloc (.cells #[.int .i64 0] 106)).alloc (.cells #[.string (bs own), .string (bs drawn), .string (bs peer), .bool true, .bool false, .bool false, .string (bs []), .string (bs []), .int .i64 0, .string (bs []), .int .i64 0, .nilFunc] 90)).heap[w3.heap.size + 1]? = some (.cells #[.string (bs own), .string (bs drawn), .string (bs peer), .bool true, .bool false, .bool false, .string (bs []), .string (bs []), .int .i64 0, .string (bs []), .int .i64 0, .nilFunc] 90 (0, 0))) := by
    have h := blk_new (w3.alloc (.cells #[.int .i64 0] 106)) (.cells #[.string (bs own), .string (bs drawn), .string (bs peer), .bool true, .bool false, .bool false, .string (bs []), .string (bs []), .int .i64 0, .string (bs []), .int .i64 0, .nilFunc] 90)
    rw [show (w3.alloc (.cells #[.int .i64 0] 106)).heap.size = w3.heap.size + 1 by simp] at h
    exact h
   have HG5 := Lib.hid (gok_alloc (gok_alloc HG3.out (.cells #[.int .i64 0] 106)) (.cells #[.string (bs own), .string (bs drawn), .string (bs peer), .bool true, .bool false, .bool false, .string (bs []), .string (bs []), .int .i64 0, .string (bs []), .int .i64 0, .nilFunc] 90))
   have hg5 : GL [] w ((w3.alloc (.cells #[.int .i64 0] 106)).alloc (.cells #[.string (bs own), .string (bs drawn), .string (bs peer), .bool true, .bool false, .bool false, .string (bs []), .string (bs []), .int .i64 0, .string (bs []), .int .i64 0, .nilFunc] 90)) := (gl_alloc (gl_alloc hg3 (.cells #[.int .i64 0] 106)) (.cells #[.string (bs own), .string (bs drawn), .string (bs peer), .bool true, .bool false, .bool false, .string (bs []), .string (bs []), .int .i64 0, .string (bs []), .int .i64 0, .nilFunc] 90))
   have geM : w.heap.size ≤ w3.heap.size := by have := hg3.size; omega
   have gnM : gN ≤ w3.heap.size := by have := HG3.out.size; omega
   have geX : w.heap.size ≤ w3.heap.size + 1 := by have := hg3.size; omega
   have gnX : gN ≤ w3.heap.size + 1 := by have := HG3.out.size; omega
   have ltMX : w3.heap.size < w3.heap.size + 1 := by omega
   have neMX : w3.heap.size ≠ w3.heap.size + 1 := by omega
   have neXM : w3.heap.size + 1 ≠ w3.heap.size := by omega
   generalize ((w3.alloc (.cells #[.int .i64 0] 106)).alloc (.cells #[.string (bs own), .string (bs drawn), .string (bs peer), .bool true, .bool false, .bool false, .string (bs []), .string (bs []), .int .i64 0, .string (bs []), .int .i64 0, .nilFunc] 90)) = w5 at *
   generalize w3.heap.size + 1 = X at *
   generalize w3.heap.size = M at *
   have hs5 := hg5.size
   go_wp2_with fail
   refine (mAgree drawn peer hd hp 0 M gnM _ HM5.out HG5.out).mono ?_
   rintro e w6 ⟨rfl, hm6, hl6⟩
   rw [E1.out] at hm6 ⊢
   dsimp only at hm6
   have HM6 := Lib.hid hm6
   clear hm6
   have HX6 := Lib.hid (blk_gl HX5.out hl6 so_)
   have HG6 := Lib.hid (gok_gl HG5.out hl6 so_)
   have hg6 : GL [] w w6 := gl_step hl6 hg5 sx_
   have hs6 := hg6.size
   go_wp2_with fail
   refine (mHash x1 peer hx1 hp g1 M gnM _ HM6.out HG6.out).mono ?_
   rintro e w7 ⟨rfl, hm7, hl7⟩
   rw [E2.out] at hm7 ⊢
   dsimp only at hm7
   have HM7 := Lib.hid hm7
   clear hm7
   have HX7 := Lib.hid (blk_gl HX6.out hl7 so_)
   have HG7 := Lib.hid (gok_gl HG6.out hl7 so_)
   have hg7 : GL [] w w7 := gl_step hl7 hg6 sx_
   have hs7 := hg7.size
   have fa1 := blk_cell HX7.out
   have fb1 := blk_free HX7.out
   have fl1 := blk_lt HX7.out
   go_wp2_with fail
   clear fa1 fb1 fl1
   have HM8 := Lib.hid (blk_ne HM7.out (p := ⟨X, 6, none⟩) so_ (.string (bs k1)))
   have HG8 := Lib.hid (gok_gl (rs := [X]) HG7.out (gl_set (gl_refl _ _) (p := ⟨X, 6, none⟩) (.inl si_) (.string (bs k1))) so_)
   have hg8 : GL [] w (w7.setCell ⟨X, 6, none⟩ (.string (bs k1))) := gl_set hg7 (by first | (left; simp; done) | (right; simp; omega)) _
   have HX8 : Hid (SesAt (w7.setCell ⟨X, 6, none⟩ (.string (bs k1))) X own drawn peer true false false k1 [] 0 [] 0 .nilFunc) := (blk_set HX7.out 6 (.string (bs k1)))
   generalize (w7.setCell ⟨X, 6, none⟩ (.string (bs k1))) = w8 at *
   have hs8 := hg8.size
   have fa2 := blk_cell HX8.out
   have fb2 := blk_free HX8.out
   have fl2 := blk_lt HX8.out
   go_wp2_with fail
   refine (mAct sd k1 hsd hk1 g2 M gnM _ HM8.out HG8.out).mono ?_
   rintro e w9 ⟨rfl, hm9, hl9⟩
   rw [E3.out] at hm9 ⊢
   dsimp only at hm9
   clear fa2 fb2 fl2
   have HM9 := Lib.hid hm9
   clear hm9
   have HX9 := Lib.hid (blk_gl HX8.out hl9 so_)
   have HG9 := Lib.hid (gok_gl HG8.out hl9 so_)
   have hg9 : GL [] w w9 := gl_step hl9 hg8 sx_
   have hs9 := hg9.size
   have fa3 := blk_cell HM9.out
   have fb3 := blk_free HM9.out
   have fl3 := blk_lt HM9.out
   have fa4 := blk_cell HX9.out
   have fb4 := blk_free HX9.out
   have fl4 := blk_lt HX9.out
   by_cases hg : g3 = 0
   · have b1 : (g3 != 0) = false := by simp [hg]
     have H2 : Hid (dialM own drawn peer = ((k1, a1), 0)) := by show dialM _ _ _ = _; rw [H.out]; simp [hg]
     clear hg
     go_wp2_with fail
     go_ret3
     rw [H2.out]
     unfold DialPost
     rw [if_pos rfl]
     refine ⟨X, geX, rfl, ?_, gl_to_below (gl_set hg9 (.inr so_) _)⟩
     exact blk_set HX9.out 11 _
   · have b1 : (g3 != 0) = true := by simp [hg]
     have H2 : Hid (dialM own drawn peer = (([], []), 3)) := by show dialM _ _ _ = _; rw [H.out]; simp [hg]
     clear hg
     go_wp2_with fail
     go_ret3
     rw [H2.out]
     exact ⟨rfl, gl_to_below hg9⟩
end Go.Proofs.YtaaiaahkakkleaaGreatDoor
-- SesC
namespace Go.Proofs.YtaaiaahkakkleaaGreatDoor
open Go.RowKit
def OnePost (X : Nat) (own drawn peer : List UInt8) (dials opn closed : Bool) (key okey : List UInt8) (oc : Int) (ikey : List UInt8) (ic : Int) (w : World) (r : Option (List UInt8 × List UInt8)) (e : Ending) (w' : World) : Prop :=
 GL [X] w w' ∧ match r with
 | none => e = .returned (.tuple #[.agg #[.string (bs []), .string (bs []), .bool false], .bool false]) ∧ SesAt w' X own drawn peer dials opn closed key okey oc ikey ic (.func (.func 43) #[.pointer (some ⟨X, 0, none⟩)] #[])
 | some (k, say) => e = .returned (.tuple #[.agg #[.string (bs say), .string (bs []), .bool false], .bool true]) ∧ SesAt w' X own drawn peer dials opn closed k okey oc ikey ic ((.func (.func 67) #[.pointer (some ⟨X, 0, none⟩)] #[]))
theorem sOne (t : List UInt8) (X : Nat) (own drawn peer : List UInt8) (dials opn closed : Bool) (key okey : List UInt8) (oc : Int) (ikey : List UInt8) (ic : Int) (hown : own.length ≤ 9000000000000000000) (hdrawn : drawn.length ≤ 9000000000000000000) (ht : t.length ≤ 9000000000000000000) (w : World) (hX : SesAt w X own drawn peer dials opn closed key okey oc ikey ic (.func (.func 43) #[.pointer (some ⟨X, 0, none⟩)] #[])) (hXg : gN ≤ X) (hG : GOk w) :
  Calls Tryz.prog 43 #[.pointer (some ⟨X, 0, none⟩), .string (bs t)] w (OnePost X own drawn peer dials opn closed key okey oc ikey ic w (oneM own drawn t)) := by
 obtain ⟨p, b, h1⟩ : ∃ p b, firstB t = (p, b) := ⟨_, _, rfl⟩
 have hpl : p.length ≤ 9000000000000000000 := by have := firstB_len t; rw [h1] at this; simp at this; omega
 have H1 := Lib.hid h1
 have HG0 := Lib.hid hG
 have HX0 := Lib.hid hX
 have ltX := blk_lt hX
 have hs := hG.size
 clear h1 hG hX
 cases b with
 | false =>
   have H : Hid (oneM own drawn t = none) := by show oneM _ _ _ = _; unfold oneM; rw [H1.out, if_pos rfl]
   go_enter Tryz.func43, Tryz.ntmps43
   have hg0 : GL [X] w w := gl_refl _ _
   have hs0 : w.heap.size ≤ w.heap.size := Nat.le_refl _
   go_wp2_with fail
   have HXr := Lib.hid (blk_alloc HX0.out (.cells #[.string (bs []), .string (bs []), .bool false] 53))
   have ltXR : X < w.heap.size := by have := blk_lt HX0.out; omega
   have neXR : X ≠ w.heap.size := by omega
   have neRX : w.heap.size ≠ X := by omega
   have HRr : Hid ((w.alloc (.cells #[.string (bs []), .string (bs []), .bool false] 53)).heap[w.heap.size]? = some (.cells #[.string (bs []), .string (bs []), .bool false] 53 (0, 0))) := by
    have h := blk_new w (.cells #[.string (bs []), .string (bs []), .bool false] 53)
    exact h
   have HGr := Lib.hid (gok_alloc HG0.out (.cells #[.string (bs []), .string (bs []), .bool false] 53))
   have hgr : GL [X] w (w.alloc (.cells #[.string (bs []), .string (bs []), .bool false] 53)) := (gl_alloc hg0 (.cells #[.string (bs []), .string (bs []), .bool false] 53))
   generalize (w.alloc (.cells #[.string (bs []), .string (bs []), .bool false] 53)) = wr at *
   have hsr := hgr.size
   go_wp2_with fail
   refine (sFirst t ht _ HGr.out).mono ?_
   rintro e w1 ⟨rfl, hb1⟩
   rw [H1.out]
   have HX1 := Lib.hid (blk_below HXr.out hb1 (blk_lt HXr.out))
   have HR1 := Lib.hid (blk_below HRr.out hb1 (blk_lt HRr.out))
   have HG1 := Lib.hid (gok_below HGr.out hb1)
   have hg1 : GL [X] w w1 := gl_below hb1 hgr
   have hs1 := hg1.size
   have z0 := blk_cell HR1.out
   have z1 := blk_free HR1.out
   have z2 := blk_lt HR1.out
   go_wp2_with fail
   refine bodyPost_ret (v := .tuple #[.agg #[.string (bs []), .string (bs []), .bool false], .bool false]) (by simp [results, Tryz.results43, go_sem, z0, z1, z2]) rfl ?_
   rw [H.out]
   exact ⟨(gl_setn si_ (gl_setn si_ (gl_setn si_ hg1 _) _) _), rfl, (blk_ne (blk_ne (blk_ne HX1.out (p := ⟨w.heap.size, 0, none⟩) so_ _) (p := ⟨w.heap.size, 1, none⟩) so_ _) (p := ⟨w.heap.size, 2, none⟩) so_ _)⟩
 | true =>
   obtain ⟨so, bo, e1⟩ : ∃ s b, secretB own = (s, b) := ⟨_, _, rfl⟩
   obtain ⟨sd, bd, e2⟩ : ∃ s b, secretB drawn = (s, b) := ⟨_, _, rfl⟩
   obtain ⟨x1, g1, e3⟩ : ∃ x g, agreeM 0 own p = (x, g) := ⟨_, _, rfl⟩
   obtain ⟨k1, g2, e4⟩ : ∃ x g, hashM g1 x1 so = (x, g) := ⟨_, _, rfl⟩
   obtain ⟨x2, g3, e5⟩ : ∃ x g, agreeM g2 drawn p = (x, g) := ⟨_, _, rfl⟩
   obtain ⟨k2, g4, e6⟩ : ∃ x g, hashM g3 k1 x2 = (x, g) := ⟨_, _, rfl⟩
   obtain ⟨a1, g5, e7⟩ : ∃ x g, actM g4 p k1 = (x, g) := ⟨_, _, rfl⟩
   obtain ⟨a2, g6, e8⟩ : ∃ x g, actM g5 sd k2 = (x, g) := ⟨_, _, rfl⟩
   have lso : so.length ≤ 9000000000000000000 := by have := secretB_len own; rw [e1] at this; simp at this; omega
   have lsd : sd.length ≤ 9000000000000000000 := by have := secretB_len drawn; rw [e2] at this; simp at this; omega
   have lx1 : x1.length ≤ 9000000000000000000 := by have := agreeM_len 0 own p; rw [e3] at this; simp at this; omega
   have lk1 : k1.length ≤ 9000000000000000000 := by have := hashM_len g1 x1 so; rw [e4] at this; simp at this; omega
   have lx2 : x2.length ≤ 9000000000000000000 := by have := agreeM_len g2 drawn p; rw [e5] at this; simp at this; omega
   have lk2 : k2.length ≤ 9000000000000000000 := by have := hashM_len g3 k1 x2; rw [e6] at this; simp at this; omega
   have H : Hid (oneM own drawn t = if g6 ≠ 0 ∨ t ≠ a1 then none else some (k2, a2)) := by
    show oneM _ _ _ = _
    unfold oneM
    rw [H1.out, if_neg si_]
    simp only [e1, e2, e3, e4, e5, e6, e7, e8]
   have E1 := Lib.hid e1
   have E2 := Lib.hid e2
   have E3 := Lib.hid e3
   have E4 := Lib.hid e4
   have E5 := Lib.hid e5
   have E6 := Lib.hid e6
   have E7 := Lib.hid e7
   have E8 := Lib.hid e8
   clear e1 e2 e3 e4 e5 e6 e7 e8
   go_enter Tryz.func43, Tryz.ntmps43
   have hg0 : GL [X] w w := gl_refl _ _
   have hs0 : w.heap.size ≤ w.heap.size := Nat.le_refl _
   go_wp2_with fail
   have HXr := Lib.hid (blk_alloc HX0.out (.cells #[.string (bs []), .string (bs []), .bool false] 53))
   have ltXR : X < w.heap.size := by have := blk_lt HX0.out; omega
   have neXR : X ≠ w.heap.size := by omega
   have neRX : w.heap.size ≠ X := by omega
   have HRr : Hid ((w.alloc (.cells #[.string (bs []), .string (bs []), .bool false] 53)).heap[w.heap.size]? = some (.cells #[.string (bs []), .string (bs []), .bool false] 53 (0, 0))) := by
    have h := blk_new w (.cells #[.string (bs []), .string (bs []), .bool false] 53)
    exact h
   have HGr := Lib.hid (gok_alloc HG0.out (.cells #[.string (bs []), .string (bs []), .bool false] 53))
   have hgr : GL [X] w (w.alloc (.cells #[.string (bs []), .string (bs []), .bool false] 53)) := (gl_alloc hg0 (.cells #[.string (bs []), .string (bs []), .bool false] 53))
   generalize (w.alloc (.cells #[.string (bs []), .string (bs []), .bool false] 53)) = wr at *
   have hsr := hgr.size
   go_wp2_with fail
   refine (sFirst t ht _ HGr.out).mono ?_
   rintro e w1 ⟨rfl, hb1⟩
   rw [H1.out]
   have HX1 := Lib.hid (blk_below HXr.out hb1 (blk_lt HXr.out))
   have HR1 := Lib.hid (blk_below HRr.out hb1 (blk_lt HRr.out))
   have HG1 := Lib.hid (gok_below HGr.out hb1)
   have hg1 : GL [X] w w1 := gl_below hb1 hgr
   have hs1 := hg1.size
   have fa1 := blk_cell HX1.out
   have fb1 := blk_free HX1.out
   have fl1 := blk_lt HX1.out
   go_wp2_with fail
   refine (sSecretB own hown _ HG1.out).mono ?_
   rintro e w2 ⟨rfl, hb2⟩
   rw [E1.out]
   clear fa1 fb1 fl1
   have HX2 := Lib.hid (blk_below HX1.out hb2 (blk_lt HX1.out))
   have HR2 := Lib.hid (blk_below HR1.out hb2 (blk_lt HR1.out))
   have HG2 := Lib.hid (gok_below HG1.out hb2)
   have hg2 : GL [X] w w2 := gl_below hb2 hg1
   have hs2 := hg2.size
   have fa2 := blk_cell HX2.out
   have fb2 := blk_free HX2.out
   have fl2 := blk_lt HX2.out
   go_wp2_with fail
   refine (sSecretB drawn hdrawn _ HG2.out).mono ?_
   rintro e w3 ⟨rfl, hb3⟩
   rw [E2.out]
   clear fa2 fb2 fl2
   have HX3 := Lib.hid (blk_below HX2.out hb3 (blk_lt HX2.out))
   have HR3 := Lib.hid (blk_below HR2.out hb3 (blk_lt HR2.out))
   have HG3 := Lib.hid (gok_below HG2.out hb3)
   have hg3 : GL [X] w w3 := gl_below hb3 hg2
   have hs3 := hg3.size
   have fa3 := blk_cell HX3.out
   have fb3 := blk_free HX3.out
   have fl3 := blk_lt HX3.out
   go_wp2_with fail
   clear fa3 fb3 fl3
   have HX4 := Lib.hid (blk_alloc HX3.out (.cells #[.int .i64 0] 106))
   have ltXM : X < w3.heap.size := by have := blk_lt HX3.out; omega
   have neXM : X ≠ w3.heap.size := by omega
   have neMX : w3.heap.size ≠ X := by omega
   have HR4 := Lib.hid (blk_alloc HR3.out (.cells #[.int .i64 0] 106))
   have ltRM : w.heap.size < w3.heap.size := by have := blk_lt HR3.out; omega
   have neRM : w.heap.size ≠ w3.heap.size := by omega
   have neMR : w3.heap.size ≠ w.heap.size := by omega
   have HM4 : Hid ((w3.alloc (.cells #[.int .i64 0] 106)).heap[w3.heap.size]? = some (.cells #[.int .i64 0] 106 (0, 0))) := by
    have h := blk_new w3 (.cells #[.int .i64 0] 106)
    exact h
   have HG4 := Lib.hid (gok_alloc HG3.out (.cells #[.int .i64 0] 106))
   have hg4 : GL [X] w (w3.alloc (.cells #[.int .i64 0] 106)) := (gl_alloc hg3 (.cells #[.int .i64 0] 106))
   have geM : w.heap.size ≤ w3.heap.size := by have := hg3.size; omega
   have gnM : gN ≤ w3.heap.size := by have := HG3.out.size; omega
   generalize (w3.alloc (.cells #[.int .i64 0] 106)) = w4 at *
   generalize w3.heap.size = M at *
   have hs4 := hg4.size
   refine (mAgree own p hown hpl 0 M gnM _ HM4.out HG4.out).mono ?_
   rintro e w5 ⟨rfl, hm5, hl5⟩
   rw [E3.out] at hm5 ⊢
   dsimp only at hm5
   have HM5 := Lib.hid hm5
   clear hm5
   have HX5 := Lib.hid (blk_gl HX4.out hl5 so_)
   have HR5 := Lib.hid (blk_gl HR4.out hl5 so_)
   have HG5 := Lib.hid (gok_gl HG4.out hl5 so_)
   have hg5 : GL [X] w w5 := gl_step hl5 hg4 sx_
   have hs5 := hg5.size
   go_wp2_with fail
   refine (mHash x1 so lx1 lso g1 M gnM _ HM5.out HG5.out).mono ?_
   rintro e w6 ⟨rfl, hm6, hl6⟩
   rw [E4.out] at hm6 ⊢
   dsimp only at hm6
   have HM6 := Lib.hid hm6
   clear hm6
   have HX6 := Lib.hid (blk_gl HX5.out hl6 so_)
   have HR6 := Lib.hid (blk_gl HR5.out hl6 so_)
   have HG6 := Lib.hid (gok_gl HG5.out hl6 so_)
   have hg6 : GL [X] w w6 := gl_step hl6 hg5 sx_
   have hs6 := hg6.size
   have fa4 := blk_cell HX6.out
   have fb4 := blk_free HX6.out
   have fl4 := blk_lt HX6.out
   go_wp2_with fail
   refine (mAgree drawn p hdrawn hpl g2 M gnM _ HM6.out HG6.out).mono ?_
   rintro e w7 ⟨rfl, hm7, hl7⟩
   rw [E5.out] at hm7 ⊢
   dsimp only at hm7
   clear fa4 fb4 fl4
   have HM7 := Lib.hid hm7
   clear hm7
   have HX7 := Lib.hid (blk_gl HX6.out hl7 so_)
   have HR7 := Lib.hid (blk_gl HR6.out hl7 so_)
   have HG7 := Lib.hid (gok_gl HG6.out hl7 so_)
   have hg7 : GL [X] w w7 := gl_step hl7 hg6 sx_
   have hs7 := hg7.size
   go_wp2_with fail
   refine (mHash k1 x2 lk1 lx2 g3 M gnM _ HM7.out HG7.out).mono ?_
   rintro e w8 ⟨rfl, hm8, hl8⟩
   rw [E6.out] at hm8 ⊢
   dsimp only at hm8
   have HM8 := Lib.hid hm8
   clear hm8
   have HX8 := Lib.hid (blk_gl HX7.out hl8 so_)
   have HR8 := Lib.hid (blk_gl HR7.out hl8 so_)
   have HG8 := Lib.hid (gok_gl HG7.out hl8 so_)
   have hg8 : GL [X] w w8 := gl_step hl8 hg7 sx_
   have hs8 := hg8.size
   go_wp2_with fail
   refine (mAct p k1 hpl lk1 g4 M gnM _ HM8.out HG8.out).mono ?_
   rintro e w9 ⟨rfl, hm9, hl9⟩
   rw [E7.out] at hm9 ⊢
   dsimp only at hm9
   have HM9 := Lib.hid hm9
   clear hm9
   have HX9 := Lib.hid (blk_gl HX8.out hl9 so_)
   have HR9 := Lib.hid (blk_gl HR8.out hl9 so_)
   have HG9 := Lib.hid (gok_gl HG8.out hl9 so_)
   have hg9 : GL [X] w w9 := gl_step hl9 hg8 sx_
   have hs9 := hg9.size
   go_wp2_with fail
   refine (mAct sd k2 lsd lk2 g5 M gnM _ HM9.out HG9.out).mono ?_
   rintro e w10 ⟨rfl, hm10, hl10⟩
   rw [E8.out] at hm10 ⊢
   dsimp only at hm10
   have HM10 := Lib.hid hm10
   clear hm10
   have HX10 := Lib.hid (blk_gl HX9.out hl10 so_)
   have HR10 := Lib.hid (blk_gl HR9.out hl10 so_)
   have HG10 := Lib.hid (gok_gl HG9.out hl10 so_)
   have hg10 : GL [X] w w10 := gl_step hl10 hg9 sx_
   have hs10 := hg10.size
   have fa5 := blk_cell HM10.out
   have fb5 := blk_free HM10.out
   have fl5 := blk_lt HM10.out
   have z0 := blk_cell HR10.out
   have z1 := blk_free HR10.out
   have z2 := blk_lt HR10.out
   by_cases hg : g6 = 0
   · have b1 : (g6 != 0) = false := by simp [hg]
     by_cases hta : t = a1
     · have H2 : Hid (oneM own drawn t = some (k2, a2)) := by show oneM _ _ _ = _; rw [H.out, if_neg (by simp [hg, hta])]
       have b2 : (t == a1) = true := by simp [hta]
       have b3 : (t != a1) = false := by simp [hta]
       have y0 := blk_cell HX10.out
       have y1 := blk_free HX10.out
       have y2 := blk_lt HX10.out
       clear hg hta
       go_wp2_with fail
       refine bodyPost_ret (v := .tuple #[.agg #[.string (bs a2), .string (bs []), .bool false], .bool true]) (by simp [results, Tryz.results43, go_sem, z0, z1, z2]) rfl ?_
       rw [H2.out]
       exact ⟨gl_, rfl, (blk_ne (blk_ne (blk_ne (blk_set (blk_set HX10.out 6 _) 11 _) (p := ⟨w.heap.size, 0, none⟩) so_ _) (p := ⟨w.heap.size, 1, none⟩) so_ _) (p := ⟨w.heap.size, 2, none⟩) so_ _)⟩
     · have H2 : Hid (oneM own drawn t = none) := by show oneM _ _ _ = _; rw [H.out, if_pos (.inr hta)]
       have b2 : (t == a1) = false := by simpa using hta
       have b3 : (t != a1) = true := by simpa using hta
       clear hg hta
       go_wp2_with fail
       refine bodyPost_ret (v := .tuple #[.agg #[.string (bs []), .string (bs []), .bool false], .bool false]) (by simp [results, Tryz.results43, go_sem, z0, z1, z2]) rfl ?_
       rw [H2.out]
       exact ⟨(gl_setn si_ (gl_setn si_ (gl_setn si_ hg10 _) _) _), rfl, (blk_ne (blk_ne (blk_ne HX10.out (p := ⟨w.heap.size, 0, none⟩) so_ _) (p := ⟨w.heap.size, 1, none⟩) so_ _) (p := ⟨w.heap.size, 2, none⟩) so_ _)⟩
   · have b1 : (g6 != 0) = true := by simp [hg]
     have H2 : Hid (oneM own drawn t = none) := by show oneM _ _ _ = _; rw [H.out, if_pos (.inl hg)]
     clear hg
     go_wp2_with fail
     refine bodyPost_ret (v := .tuple #[.agg #[.string (bs []), .string (bs []), .bool false], .bool false]) (by simp [results, Tryz.results43, go_sem, z0, z1, z2]) rfl ?_
     rw [H2.out]
     exact ⟨(gl_setn si_ (gl_setn si_ (gl_setn si_ hg10 _) _) _), rfl, (blk_ne (blk_ne (blk_ne HX10.out (p := ⟨w.heap.size, 0, none⟩) so_ _) (p := ⟨w.heap.size, 1, none⟩) so_ _) (p := ⟨w.heap.size, 2, none⟩) so_ _)⟩
end Go.Proofs.YtaaiaahkakkleaaGreatDoor
-- SesD
namespace Go.Proofs.YtaaiaahkakkleaaGreatDoor
open Go.RowKit
theorem sOpensBad (k3 : List UInt8) (hk3 : k3.length ≤ 9000000000000000000) (fe : Int) (hbad : (opensM fe k3).2 ≠ 0) (X M : Nat) (own drawn peer : List UInt8) (dials opn closed : Bool) (key okey : List UInt8) (oc : Int) (ikey : List UInt8) (ic : Int) (nf : Nat) (w : World) (hX : SesAt w X own drawn peer dials opn closed key okey oc ikey ic (.func (.func nf) #[.pointer (some ⟨X, 0, none⟩)] #[])) (hM : MkAt w M fe) (hMg : gN ≤ M) (hne : X ≠ M) (hG : GOk w) :
  Calls Tryz.prog 70 #[.pointer (some ⟨X, 0, none⟩), .pointer (some ⟨M, 0, none⟩), .string (bs k3)] w fun e w' =>
   e = .returned (.bool false) ∧ MkAt w' M (opensM fe k3).2 ∧ GL [M] w w' := by
 obtain ⟨a, g1, e1⟩ : ∃ x g, childM fe k3 lDial = (x, g) := ⟨_, _, rfl⟩
 obtain ⟨b, g2, e2⟩ : ∃ x g, childM g1 k3 lListen = (x, g) := ⟨_, _, rfl⟩
 have H : Hid (opensM fe k3 = ((a, b), g2)) := by show opensM _ _ = _; simp only [opensM, e1, e2]
 have E1 := Lib.hid e1
 have E2 := Lib.hid e2
 rw [H.out] at hbad
 have b1 : (g2 != 0) = true := by simpa using hbad
 have HG0 := Lib.hid hG
 have HX0 := Lib.hid hX
 have HM0 := Lib.hid hM
 have ltX := blk_lt hX
 have ltM := blk_lt hM
 have hne2 := hne.symm
 clear e1 e2 hG hX hM hbad
 go_enter Tryz.func70, Tryz.ntmps70
 have hg0 : GL [M] w w := gl_refl _ _
 have hs0 : w.heap.size ≤ w.heap.size := Nat.le_refl _
 go_wp2_with fail
 refine (mChild k3 lDial hk3 de_ fe M hMg _ HM0.out HG0.out).mono ?_
 rintro e w1 ⟨rfl, hm1, hl1⟩
 rw [E1.out] at hm1 ⊢
 dsimp only at hm1
 have HM1 := Lib.hid hm1
 clear hm1
 have HX1 := Lib.hid (blk_gl HX0.out hl1 so_)
 have HG1 := Lib.hid (gok_gl HG0.out hl1 so_)
 have hg1 : GL [M] w w1 := gl_step hl1 hg0 sx_
 have hs1 := hg1.size
 go_wp2_with fail
 refine (mChild k3 lListen hk3 de_ g1 M hMg _ HM1.out HG1.out).mono ?_
 rintro e w2 ⟨rfl, hm2, hl2⟩
 rw [E2.out] at hm2 ⊢
 dsimp only at hm2
 have HM2 := Lib.hid hm2
 clear hm2
 have HX2 := Lib.hid (blk_gl HX1.out hl2 so_)
 have HG2 := Lib.hid (gok_gl HG1.out hl2 so_)
 have hg2 : GL [M] w w2 := gl_step hl2 hg1 sx_
 have hs2 := hg2.size
 have fa1 := blk_cell HM2.out
 have fb1 := blk_free HM2.out
 have fl1 := blk_lt HM2.out
 skip
 go_wp2_with fail
 go_ret
 rw [H.out]
 exact ⟨rfl, blk_alloc (blk_alloc HM2.out _) _, gl_⟩
theorem sOpensGood (k3 : List UInt8) (hk3 : k3.length ≤ 9000000000000000000) (fe : Int) (hgood : (opensM fe k3).2 = 0) (X M : Nat) (own drawn peer : List UInt8) (dials opn closed : Bool) (key okey : List UInt8) (oc : Int) (ikey : List UInt8) (ic : Int) (nf : Nat) (w : World) (hX : SesAt w X own drawn peer dials opn closed key okey oc ikey ic (.func (.func nf) #[.pointer (some ⟨X, 0, none⟩)] #[])) (hM : MkAt w M fe) (hMg : gN ≤ M) (hXg : gN ≤ X) (hne : X ≠ M) (hG : GOk w) :
  Calls Tryz.prog 70 #[.pointer (some ⟨X, 0, none⟩), .pointer (some ⟨M, 0, none⟩), .string (bs k3)] w fun e w' =>
   e = .returned (.bool true) ∧ SesAt w' X own drawn peer dials opn closed key (if dials = true then (opensM fe k3).1.1 else (opensM fe k3).1.2) 0 (if dials = true then (opensM fe k3).1.2 else (opensM fe k3).1.1) 0 (.func (.func 96) #[.pointer (some ⟨X, 0, none⟩)] #[]) ∧ GL [X, M] w w' := by
 obtain ⟨a, g1, e1⟩ : ∃ x g, childM fe k3 lDial = (x, g) := ⟨_, _, rfl⟩
 obtain ⟨b, g2, e2⟩ : ∃ x g, childM g1 k3 lListen = (x, g) := ⟨_, _, rfl⟩
 have H : Hid (opensM fe k3 = ((a, b), g2)) := by show opensM _ _ = _; simp only [opensM, e1, e2]
 have E1 := Lib.hid e1
 have E2 := Lib.hid e2
 rw [H.out] at hgood
 obtain rfl : g2 = 0 := hgood
 have HG0 := Lib.hid hG
 have HX0 := Lib.hid hX
 have HM0 := Lib.hid hM
 have ltX := blk_lt hX
 have ltM := blk_lt hM
 have hne2 := hne.symm
 clear e1 e2 hG hX hM
 cases dials
 case false =>
  go_enter Tryz.func70, Tryz.ntmps70
  have hg0 : GL [X, M] w w := gl_refl _ _
  have hs0 : w.heap.size ≤ w.heap.size := Nat.le_refl _
  go_wp2_with fail
  refine (mChild k3 lDial hk3 de_ fe M hMg _ HM0.out HG0.out).mono ?_
  rintro e w1 ⟨rfl, hm1, hl1⟩
  rw [E1.out] at hm1 ⊢
  dsimp only at hm1
  have HM1 := Lib.hid hm1
  clear hm1
  have HX1 := Lib.hid (blk_gl HX0.out hl1 so_)
  have HG1 := Lib.hid (gok_gl HG0.out hl1 so_)
  have hg1 : GL [X, M] w w1 := gl_step hl1 hg0 sx_
  have hs1 := hg1.size
  go_wp2_with fail
  refine (mChild k3 lListen hk3 de_ g1 M hMg _ HM1.out HG1.out).mono ?_
  rintro e w2 ⟨rfl, hm2, hl2⟩
  rw [E2.out] at hm2 ⊢
  dsimp only at hm2
  have HM2 := Lib.hid hm2
  clear hm2
  have HX2 := Lib.hid (blk_gl HX1.out hl2 so_)
  have HG2 := Lib.hid (gok_gl HG1.out hl2 so_)
  have hg2 : GL [X, M] w w2 := gl_step hl2 hg1 sx_
  have hs2 := hg2.size
  have fa1 := blk_cell HM2.out
  have fb1 := blk_free HM2.out
  have fl1 := blk_lt HM2.out
  have fa2 := blk_cell HX2.out
  have fb2 := blk_free HX2.out
  have fl2 := blk_lt HX2.out
  go_wp2_with fail
  clear fa1 fb1 fl1 fa2 fb2 fl2
  have HX3 := Lib.hid (blk_alloc (blk_alloc HX2.out (.cells #[.string (bs b), .int .i64 0] 87)) (.cells #[.string (bs a), .int .i64 0] 87))
  have ltXA : X < w2.heap.size := by have := blk_lt HX2.out; omega
  have neXA : X ≠ w2.heap.size := by omega
  have neAX : w2.heap.size ≠ X := by omega
  have ltXB : X < w2.heap.size + 1 := by have := blk_lt HX2.out; omega
  have neXB : X ≠ w2.heap.size + 1 := by omega
  have neBX : w2.heap.size + 1 ≠ X := by omega
  have HM3 := Lib.hid (blk_alloc (blk_alloc HM2.out (.cells #[.string (bs b), .int .i64 0] 87)) (.cells #[.string (bs a), .int .i64 0] 87))
  have ltMA : M < w2.heap.size := by have := blk_lt HM2.out; omega
  have neMA : M ≠ w2.heap.size := by omega
  have neAM : w2.heap.size ≠ M := by omega
  have ltMB : M < w2.heap.size + 1 := by have := blk_lt HM2.out; omega
  have neMB : M ≠ w2.heap.size + 1 := by omega
  have neBM : w2.heap.size + 1 ≠ M := by omega
  have HA3 : Hid (((w2.alloc (.cells #[.string (bs b), .int .i64 0] 87)).alloc (.cells #[.string (bs a), .int .i64 0] 87)).heap[w2.heap.size]? = some (.cells #[.string (bs b), .int .i64 0] 87 (0, 0))) := by
   have h := blk_new w2 (.cells #[.string (bs b), .int .i64 0] 87)
   exact (blk_alloc h (.cells #[.string (bs a), .int .i64 0] 87))
  have HB3 : Hid (((w2.alloc (.cells #[.string (bs b), .int .i64 0] 87)).alloc (.cells #[.string (bs a), .int .i64 0] 87)).heap[w2.heap.size + 1]? = some (.cells #[.string (bs a), .int .i64 0] 87 (0, 0))) := by
   have h := blk_new (w2.alloc (.cells #[.string (bs b), .int .i64 0] 87)) (.cells #[.string (bs a), .int .i64 0] 87)
   rw [show (w2.alloc (.cells #[.string (bs b), .int .i64 0] 87)).heap.size = w2.heap.size + 1 by simp] at h
   exact h
  have HG3 := Lib.hid (gok_alloc (gok_alloc HG2.out (.cells #[.string (bs b), .int .i64 0] 87)) (.cells #[.string (bs a), .int .i64 0] 87))
  have hg3 : GL [X, M] w ((w2.alloc (.cells #[.string (bs b), .int .i64 0] 87)).alloc (.cells #[.string (bs a), .int .i64 0] 87)) := (gl_alloc (gl_alloc hg2 (.cells #[.string (bs b), .int .i64 0] 87)) (.cells #[.string (bs a), .int .i64 0] 87))
  have geA : w.heap.size ≤ w2.heap.size := by have := hg2.size; omega
  have gnA : gN ≤ w2.heap.size := by have := HG2.out.size; omega
  have geB : w.heap.size ≤ w2.heap.size + 1 := by have := hg2.size; omega
  have gnB : gN ≤ w2.heap.size + 1 := by have := HG2.out.size; omega
  have ltAB : w2.heap.size < w2.heap.size + 1 := by omega
  have neAB : w2.heap.size ≠ w2.heap.size + 1 := by omega
  have neBA : w2.heap.size + 1 ≠ w2.heap.size := by omega
  generalize ((w2.alloc (.cells #[.string (bs b), .int .i64 0] 87)).alloc (.cells #[.string (bs a), .int .i64 0] 87)) = w3 at *
  generalize w2.heap.size + 1 = B at *
  generalize w2.heap.size = A at *
  have hs3 := hg3.size
  have fa3 := blk_cell HX3.out
  have fb3 := blk_free HX3.out
  have fl3 := blk_lt HX3.out
  have fa4 := blk_cell HA3.out
  have fb4 := blk_free HA3.out
  have fl4 := blk_lt HA3.out
  have fa5 := blk_cell HB3.out
  have fb5 := blk_free HB3.out
  have fl5 := blk_lt HB3.out
  go_region
  go_wp2
  go_ret
  rw [H.out]
  refine ⟨rfl, ?_, gl_⟩
  show _ = _
  first | exact blk_drew (blk_set (blk_set (blk_set (blk_set (blk_set HX3.out 7 _) 8 _) 9 _) 10 _) 11 _) | (simp [World.setCell, Array.getElem?_modify, HX3.out])
 case true =>
  go_enter Tryz.func70, Tryz.ntmps70
  have hg0 : GL [X, M] w w := gl_refl _ _
  have hs0 : w.heap.size ≤ w.heap.size := Nat.le_refl _
  go_wp2_with fail
  refine (mChild k3 lDial hk3 de_ fe M hMg _ HM0.out HG0.out).mono ?_
  rintro e w1 ⟨rfl, hm1, hl1⟩
  rw [E1.out] at hm1 ⊢
  dsimp only at hm1
  have HM1 := Lib.hid hm1
  clear hm1
  have HX1 := Lib.hid (blk_gl HX0.out hl1 so_)
  have HG1 := Lib.hid (gok_gl HG0.out hl1 so_)
  have hg1 : GL [X, M] w w1 := gl_step hl1 hg0 sx_
  have hs1 := hg1.size
  go_wp2_with fail
  refine (mChild k3 lListen hk3 de_ g1 M hMg _ HM1.out HG1.out).mono ?_
  rintro e w2 ⟨rfl, hm2, hl2⟩
  rw [E2.out] at hm2 ⊢
  dsimp only at hm2
  have HM2 := Lib.hid hm2
  clear hm2
  have HX2 := Lib.hid (blk_gl HX1.out hl2 so_)
  have HG2 := Lib.hid (gok_gl HG1.out hl2 so_)
  have hg2 : GL [X, M] w w2 := gl_step hl2 hg1 sx_
  have hs2 := hg2.size
  have fa1 := blk_cell HM2.out
  have fb1 := blk_free HM2.out
  have fl1 := blk_lt HM2.out
  have fa2 := blk_cell HX2.out
  have fb2 := blk_free HX2.out
  have fl2 := blk_lt HX2.out
  go_wp2_with fail
  clear fa1 fb1 fl1 fa2 fb2 fl2
  have HX3 := Lib.hid (blk_alloc (blk_alloc HX2.out (.cells #[.string (bs a), .int .i64 0] 87)) (.cells #[.string (bs b), .int .i64 0] 87))
  have ltXA : X < w2.heap.size := by have := blk_lt HX2.out; omega
  have neXA : X ≠ w2.heap.size := by omega
  have neAX : w2.heap.size ≠ X := by omega
  have ltXB : X < w2.heap.size + 1 := by have := blk_lt HX2.out; omega
  have neXB : X ≠ w2.heap.size + 1 := by omega
  have neBX : w2.heap.size + 1 ≠ X := by omega
  have HM3 := Lib.hid (blk_alloc (blk_alloc HM2.out (.cells #[.string (bs a), .int .i64 0] 87)) (.cells #[.string (bs b), .int .i64 0] 87))
  have ltMA : M < w2.heap.size := by have := blk_lt HM2.out; omega
  have neMA : M ≠ w2.heap.size := by omega
  have neAM : w2.heap.size ≠ M := by omega
  have ltMB : M < w2.heap.size + 1 := by have := blk_lt HM2.out; omega
  have neMB : M ≠ w2.heap.size + 1 := by omega
  have neBM : w2.heap.size + 1 ≠ M := by omega
  have HA3 : Hid (((w2.alloc (.cells #[.string (bs a), .int .i64 0] 87)).alloc (.cells #[.string (bs b), .int .i64 0] 87)).heap[w2.heap.size]? = some (.cells #[.string (bs a), .int .i64 0] 87 (0, 0))) := by
   have h := blk_new w2 (.cells #[.string (bs a), .int .i64 0] 87)
   exact (blk_alloc h (.cells #[.string (bs b), .int .i64 0] 87))
  have HB3 : Hid (((w2.alloc (.cells #[.string (bs a), .int .i64 0] 87)).alloc (.cells #[.string (bs b), .int .i64 0] 87)).heap[w2.heap.size + 1]? = some (.cells #[.string (bs b), .int .i64 0] 87 (0, 0))) := by
   have h := blk_new (w2.alloc (.cells #[.string (bs a), .int .i64 0] 87)) (.cells #[.string (bs b), .int .i64 0] 87)
   rw [show (w2.alloc (.cells #[.string (bs a), .int .i64 0] 87)).heap.size = w2.heap.size + 1 by simp] at h
   exact h
  have HG3 := Lib.hid (gok_alloc (gok_alloc HG2.out (.cells #[.string (bs a), .int .i64 0] 87)) (.cells #[.string (bs b), .int .i64 0] 87))
  have hg3 : GL [X, M] w ((w2.alloc (.cells #[.string (bs a), .int .i64 0] 87)).alloc (.cells #[.string (bs b), .int .i64 0] 87)) := (gl_alloc (gl_alloc hg2 (.cells #[.string (bs a), .int .i64 0] 87)) (.cells #[.string (bs b), .int .i64 0] 87))
  have geA : w.heap.size ≤ w2.heap.size := by have := hg2.size; omega
  have gnA : gN ≤ w2.heap.size := by have := HG2.out.size; omega
  have geB : w.heap.size ≤ w2.heap.size + 1 := by have := hg2.size; omega
  have gnB : gN ≤ w2.heap.size + 1 := by have := HG2.out.size; omega
  have ltAB : w2.heap.size < w2.heap.size + 1 := by omega
  have neAB : w2.heap.size ≠ w2.heap.size + 1 := by omega
  have neBA : w2.heap.size + 1 ≠ w2.heap.size := by omega
  generalize ((w2.alloc (.cells #[.string (bs a), .int .i64 0] 87)).alloc (.cells #[.string (bs b), .int .i64 0] 87)) = w3 at *
  generalize w2.heap.size + 1 = B at *
  generalize w2.heap.size = A at *
  have hs3 := hg3.size
  have fa3 := blk_cell HX3.out
  have fb3 := blk_free HX3.out
  have fl3 := blk_lt HX3.out
  have fa4 := blk_cell HA3.out
  have fb4 := blk_free HA3.out
  have fl4 := blk_lt HA3.out
  have fa5 := blk_cell HB3.out
  have fb5 := blk_free HB3.out
  have fl5 := blk_lt HB3.out
  go_region
  go_wp2
  go_ret
  rw [H.out]
  refine ⟨rfl, ?_, gl_⟩
  show _ = _
  first | exact blk_drew (blk_set (blk_set (blk_set (blk_set (blk_set HX3.out 7 _) 8 _) 9 _) 10 _) 11 _) | (simp [World.setCell, Array.getElem?_modify, HX3.out])
end Go.Proofs.YtaaiaahkakkleaaGreatDoor
-- SesE
namespace Go.Proofs.YtaaiaahkakkleaaGreatDoor
open Go.RowKit
def TwoPost (X : Nat) (own drawn peer : List UInt8) (dials opn closed : Bool) (key okey : List UInt8) (oc : Int) (ikey : List UInt8) (ic : Int) (w : World) (r : Nat × ((List UInt8 × List UInt8) × List UInt8)) (e : Ending) (w' : World) : Prop :=
 GL [X] w w' ∧ (if r.1 = 2 then e = .returned (.tuple #[.agg #[.string (bs r.2.2), .string (bs []), .bool false], .bool true]) else e = .returned (.tuple #[.agg #[.string (bs []), .string (bs []), .bool false], .bool false])) ∧
  (if r.1 = 0 then SesAt w' X own drawn peer dials opn closed key okey oc ikey ic (.func (.func 48) #[.pointer (some ⟨X, 0, none⟩)] #[])
    else SesAt w' X own drawn peer dials (r.1 == 2 || opn) closed key (if dials = true then r.2.1.1 else r.2.1.2) 0 (if dials = true then r.2.1.2 else r.2.1.1) 0 (.func (.func 96) #[.pointer (some ⟨X, 0, none⟩)] #[]))
theorem sTwo (t : List UInt8) (X : Nat) (own drawn peer : List UInt8) (dials opn closed : Bool) (key okey : List UInt8) (oc : Int) (ikey : List UInt8) (ic : Int) (hown : own.length ≤ 9000000000000000000) (hdrawn : drawn.length ≤ 9000000000000000000) (hkey : key.length ≤ 9000000000000000000) (ht : t.length ≤ 9000000000000000000) (w : World) (hX : SesAt w X own drawn peer dials opn closed key okey oc ikey ic (.func (.func 48) #[.pointer (some ⟨X, 0, none⟩)] #[])) (hXg : gN ≤ X) (hG : GOk w) :
  Calls Tryz.prog 48 #[.pointer (some ⟨X, 0, none⟩), .string (bs t)] w (TwoPost X own drawn peer dials opn closed key okey oc ikey ic w (twoM own drawn key t)) := by
 obtain ⟨p, b, h1⟩ : ∃ p b, firstB t = (p, b) := ⟨_, _, rfl⟩
 have hpl : p.length ≤ 9000000000000000000 := by have := firstB_len t; rw [h1] at this; simp at this; omega
 have H1 := Lib.hid h1
 have HG0 := Lib.hid hG
 have HX0 := Lib.hid hX
 have ltX := blk_lt hX
 have hs := hG.size
 clear h1 hG hX
 cases b with
 | false =>
   have H : Hid (twoM own drawn key t = (0, (([], []), []))) := by show twoM _ _ _ _ = _; unfold twoM; rw [H1.out, if_pos rfl]
   go_enter Tryz.func48, Tryz.ntmps48
   have hg0 : GL [X] w w := gl_refl _ _
   have hs0 : w.heap.size ≤ w.heap.size := Nat.le_refl _
   go_wp2_with fail
   have HXr := Lib.hid (blk_alloc HX0.out (.cells #[.string (bs []), .string (bs []), .bool false] 53))
   have ltXR : X < w.heap.size := by have := blk_lt HX0.out; omega
   have neXR : X ≠ w.heap.size := by omega
   have neRX : w.heap.size ≠ X := by omega
   have HRr : Hid ((w.alloc (.cells #[.string (bs []), .string (bs []), .bool false] 53)).heap[w.heap.size]? = some (.cells #[.string (bs []), .string (bs []), .bool false] 53 (0, 0))) := by
    have h := blk_new w (.cells #[.string (bs []), .string (bs []), .bool false] 53)
    exact h
   have HGr := Lib.hid (gok_alloc HG0.out (.cells #[.string (bs []), .string (bs []), .bool false] 53))
   have hgr : GL [X] w (w.alloc (.cells #[.string (bs []), .string (bs []), .bool false] 53)) := (gl_alloc hg0 (.cells #[.string (bs []), .string (bs []), .bool false] 53))
   generalize (w.alloc (.cells #[.string (bs []), .string (bs []), .bool false] 53)) = wr at *
   have hsr := hgr.size
   go_wp2_with fail
   refine (sFirst t ht _ HGr.out).mono ?_
   rintro e w1 ⟨rfl, hb1⟩
   rw [H1.out]
   have HX1 := Lib.hid (blk_below HXr.out hb1 (blk_lt HXr.out))
   have HR1 := Lib.hid (blk_below HRr.out hb1 (blk_lt HRr.out))
   have HG1 := Lib.hid (gok_below HGr.out hb1)
   have hg1 : GL [X] w w1 := gl_below hb1 hgr
   have hs1 := hg1.size
   have z0 := blk_cell HR1.out
   have z1 := blk_free HR1.out
   have z2 := blk_lt HR1.out
   go_wp2_with fail
   refine bodyPost_ret (v := .tuple #[.agg #[.string (bs []), .string (bs []), .bool false], .bool false]) (by simp [results, Tryz.results48, go_sem, z0, z1, z2]) rfl ?_
   rw [H.out]
   exact ⟨(gl_setn si_ (gl_setn si_ (gl_setn si_ hg1 _) _) _), rfl, (blk_ne (blk_ne (blk_ne HX1.out (p := ⟨w.heap.size, 0, none⟩) so_ _) (p := ⟨w.heap.size, 1, none⟩) so_ _) (p := ⟨w.heap.size, 2, none⟩) so_ _)⟩
 | true =>
   obtain ⟨so, bo, e1⟩ : ∃ s b, secretB own = (s, b) := ⟨_, _, rfl⟩
   obtain ⟨x1, g1, e3⟩ : ∃ x g, agreeM 0 drawn p = (x, g) := ⟨_, _, rfl⟩
   obtain ⟨k2, g2, e4⟩ : ∃ x g, hashM g1 key x1 = (x, g) := ⟨_, _, rfl⟩
   obtain ⟨x2, g3, e5⟩ : ∃ x g, agreeM g2 own p = (x, g) := ⟨_, _, rfl⟩
   obtain ⟨k3, g4, e6⟩ : ∃ x g, hashM g3 k2 x2 = (x, g) := ⟨_, _, rfl⟩
   obtain ⟨a1, g5, e7⟩ : ∃ x g, actM g4 p k2 = (x, g) := ⟨_, _, rfl⟩
   obtain ⟨a2, g6, e8⟩ : ∃ x g, actM g5 so k3 = (x, g) := ⟨_, _, rfl⟩
   obtain ⟨bx, g7, e9⟩ : ∃ x g, twoT 66 k2 a2 = (x, g) := ⟨_, _, rfl⟩
   obtain ⟨o, g8, e10⟩ : ∃ x g, opensM (mkE g6 g7) k3 = (x, g) := ⟨_, _, rfl⟩
   have lso : so.length ≤ 9000000000000000000 := by have := secretB_len own; rw [e1] at this; simp at this; omega
   have lx1 : x1.length ≤ 9000000000000000000 := by have := agreeM_len 0 drawn p; rw [e3] at this; simp at this; omega
   have lk2 : k2.length ≤ 9000000000000000000 := by have := hashM_len g1 key x1; rw [e4] at this; simp at this; omega
   have lx2 : x2.length ≤ 9000000000000000000 := by have := agreeM_len g2 own p; rw [e5] at this; simp at this; omega
   have lk3 : k3.length ≤ 9000000000000000000 := by have := hashM_len g3 k2 x2; rw [e6] at this; simp at this; omega
   have la2 : a2.length ≤ 9000000000000000000 := by have := actM_len g5 so k3; rw [e8] at this; simp at this; omega
   have H : Hid (twoM own drawn key t = if g8 ≠ 0 then (0, (([], []), [])) else if t ≠ a1 then (1, (o, [])) else (2, (o, bx))) := by
    show twoM _ _ _ _ = _
    unfold twoM
    rw [H1.out, if_neg si_]
    simp only [e1, e3, e4, e5, e6, e7, e8, e9, e10]
   have E1 := Lib.hid e1
   have E3 := Lib.hid e3
   have E4 := Lib.hid e4
   have E5 := Lib.hid e5
   have E6 := Lib.hid e6
   have E7 := Lib.hid e7
   have E8 := Lib.hid e8
   have E9 := Lib.hid e9
   have E10 := Lib.hid e10
   clear e1 e3 e4 e5 e6 e7 e8 e9 e10
   go_enter Tryz.func48, Tryz.ntmps48
   have hg0 : GL [X] w w := gl_refl _ _
   have hs0 : w.heap.size ≤ w.heap.size := Nat.le_refl _
   go_wp2_with fail
   have HXr := Lib.hid (blk_alloc HX0.out (.cells #[.string (bs []), .string (bs []), .bool false] 53))
   have ltXR : X < w.heap.size := by have := blk_lt HX0.out; omega
   have neXR : X ≠ w.heap.size := by omega
   have neRX : w.heap.size ≠ X := by omega
   have HRr : Hid ((w.alloc (.cells #[.string (bs []), .string (bs []), .bool false] 53)).heap[w.heap.size]? = some (.cells #[.string (bs []), .string (bs []), .bool false] 53 (0, 0))) := by
    have h := blk_new w (.cells #[.string (bs []), .string (bs []), .bool false] 53)
    exact h
   have HGr := Lib.hid (gok_alloc HG0.out (.cells #[.string (bs []), .string (bs []), .bool false] 53))
   have hgr : GL [X] w (w.alloc (.cells #[.string (bs []), .string (bs []), .bool false] 53)) := (gl_alloc hg0 (.cells #[.string (bs []), .string (bs []), .bool false] 53))
   generalize (w.alloc (.cells #[.string (bs []), .string (bs []), .bool false] 53)) = wr at *
   have hsr := hgr.size
   go_wp2_with fail
   refine (sFirst t ht _ HGr.out).mono ?_
   rintro e w1 ⟨rfl, hb1⟩
   rw [H1.out]
   have HX1 := Lib.hid (blk_below HXr.out hb1 (blk_lt HXr.out))
   have HR1 := Lib.hid (blk_below HRr.out hb1 (blk_lt HRr.out))
   have HG1 := Lib.hid (gok_below HGr.out hb1)
   have hg1 : GL [X] w w1 := gl_below hb1 hgr
   have hs1 := hg1.size
   have fa1 := blk_cell HX1.out
   have fb1 := blk_free HX1.out
   have fl1 := blk_lt HX1.out
   go_wp2_with fail
   refine (sSecretB own hown _ HG1.out).mono ?_
   rintro e w2 ⟨rfl, hb2⟩
   rw [E1.out]
   clear fa1 fb1 fl1
   have HX2 := Lib.hid (blk_below HX1.out hb2 (blk_lt HX1.out))
   have HR2 := Lib.hid (blk_below HR1.out hb2 (blk_lt HR1.out))
   have HG2 := Lib.hid (gok_below HG1.out hb2)
   have hg2 : GL [X] w w2 := gl_below hb2 hg1
   have hs2 := hg2.size
   go_wp2_with fail
   have HX3 := Lib.hid (blk_alloc HX2.out (.cells #[.int .i64 0] 106))
   have ltXM : X < w2.heap.size := by have := blk_lt HX2.out; omega
   have neXM : X ≠ w2.heap.size := by omega
   have neMX : w2.heap.size ≠ X := by omega
   have HR3 := Lib.hid (blk_alloc HR2.out (.cells #[.int .i64 0] 106))
   have ltRM : w.heap.size < w2.heap.size := by have := blk_lt HR2.out; omega
   have neRM : w.heap.size ≠ w2.heap.size := by omega
   have neMR : w2.heap.size ≠ w.heap.size := by omega
   have HM3 : Hid ((w2.alloc (.cells #[.int .i64 0] 106)).heap[w2.heap.size]? = some (.cells #[.int .i64 0] 106 (0, 0))) := by
    have h := blk_new w2 (.cells #[.int .i64 0] 106)
    exact h
   have HG3 := Lib.hid (gok_alloc HG2.out (.cells #[.int .i64 0] 106))
   have hg3 : GL [X] w (w2.alloc (.cells #[.int .i64 0] 106)) := (gl_alloc hg2 (.cells #[.int .i64 0] 106))
   have geM : w.heap.size ≤ w2.heap.size := by have := hg2.size; omega
   have gnM : gN ≤ w2.heap.size := by have := HG2.out.size; omega
   generalize (w2.alloc (.cells #[.int .i64 0] 106)) = w3 at *
   generalize w2.heap.size = M at *
   have hs3 := hg3.size
   have fa2 := blk_cell HX3.out
   have fb2 := blk_free HX3.out
   have fl2 := blk_lt HX3.out
   go_region_held3 (fun w' => w'.cell? ⟨X, 6, none⟩ = some (.string (bs key)) ∧ w'.cell? ⟨X, 1, none⟩ = some (.string (bs drawn)))
    (first | go_keep | (refine ⟨?_, ?_⟩ <;> (first | exact blk_cell HX4.out 6 | exact blk_cell HX4.out 1 | exact blk_cell HX5.out 6 | exact blk_cell HX5.out 1)))
    ((first
       | (go_at_call 46
          refine (mAgree drawn p hdrawn hpl 0 M gnM _ (by first | exact HM3.out | exact blk_drew HM3.out | exact blk_drewN HM3.out _) (by first | exact HG3.out | exact gok_drew HG3.out | exact gok_drewN HG3.out _)).mono ?_
          rintro e w4 ⟨rfl, hm4, hd4⟩
          have hl4 : GL [M] w3 w4 := ⟨hd4.os, hd4.tape, hd4.output, hd4.size, hd4.block⟩
          rw [E3.out] at hm4 ⊢
          dsimp only at hm4
          have HM4 := Lib.hid hm4
          clear hm4 hd4
          have HX4 := Lib.hid (blk_gl HX3.out hl4 so_)
          have HR4 := Lib.hid (blk_gl HR3.out hl4 so_)
          have HG4 := Lib.hid (gok_gl HG3.out hl4 so_)
          have hg4 : GL [X] w w4 := gl_step hl4 hg3 sx_
          have hs4 : w.heap.size ≤ w4.heap.size := hg4.size)
       | (go_at_call 45
          refine (mHash key x1 hkey lx1 g1 M gnM _ (by first | exact HM4.out | exact blk_drew HM4.out | exact blk_drewN HM4.out _) (by first | exact HG4.out | exact gok_drew HG4.out | exact gok_drewN HG4.out _)).mono ?_
          rintro e w5 ⟨rfl, hm5, hd5⟩
          have hl5 : GL [M] w4 w5 := ⟨hd5.os, hd5.tape, hd5.output, hd5.size, hd5.block⟩
          rw [E4.out] at hm5 ⊢
          dsimp only at hm5
          have HM5 := Lib.hid hm5
          clear hm5 hd5
          have HX5 := Lib.hid (blk_gl HX4.out hl5 so_)
          have HR5 := Lib.hid (blk_gl HR4.out hl5 so_)
          have HG5 := Lib.hid (gok_gl HG4.out hl5 so_)
          have hg5 : GL [X] w w5 := gl_step hl5 hg4 sx_
          have hs5 : w.heap.size ≤ w5.heap.size := hg5.size)))
   clear fa2 fb2 fl2
   have fa3 := blk_cell HX5.out
   have fb3 := blk_free HX5.out
   have fl3 := blk_lt HX5.out
   go_wp2_with fail
   refine (mAgree own p hown hpl g2 M gnM _ HM5.out HG5.out).mono ?_
   rintro e w6 ⟨rfl, hm6, hl6⟩
   rw [E5.out] at hm6 ⊢
   dsimp only at hm6
   clear fa3 fb3 fl3
   have HM6 := Lib.hid hm6
   clear hm6
   have HX6 := Lib.hid (blk_gl HX5.out hl6 so_)
   have HR6 := Lib.hid (blk_gl HR5.out hl6 so_)
   have HG6 := Lib.hid (gok_gl HG5.out hl6 so_)
   have hg6 : GL [X] w w6 := gl_step hl6 hg5 sx_
   have hs6 := hg6.size
   go_wp2_with fail
   refine (mHash k2 x2 lk2 lx2 g3 M gnM _ HM6.out HG6.out).mono ?_
   rintro e w7 ⟨rfl, hm7, hl7⟩
   rw [E6.out] at hm7 ⊢
   dsimp only at hm7
   have HM7 := Lib.hid hm7
   clear hm7
   have HX7 := Lib.hid (blk_gl HX6.out hl7 so_)
   have HR7 := Lib.hid (blk_gl HR6.out hl7 so_)
   have HG7 := Lib.hid (gok_gl HG6.out hl7 so_)
   have hg7 : GL [X] w w7 := gl_step hl7 hg6 sx_
   have hs7 := hg7.size
   go_wp2_with fail
   refine (mAct p k2 hpl lk2 g4 M gnM _ HM7.out HG7.out).mono ?_
   rintro e w8 ⟨rfl, hm8, hl8⟩
   rw [E7.out] at hm8 ⊢
   dsimp only at hm8
   have HM8 := Lib.hid hm8
   clear hm8
   have HX8 := Lib.hid (blk_gl HX7.out hl8 so_)
   have HR8 := Lib.hid (blk_gl HR7.out hl8 so_)
   have HG8 := Lib.hid (gok_gl HG7.out hl8 so_)
   have hg8 : GL [X] w w8 := gl_step hl8 hg7 sx_
   have hs8 := hg8.size
   go_wp2_with fail
   refine (mAct so k3 lso lk3 g5 M gnM _ HM8.out HG8.out).mono ?_
   rintro e w9 ⟨rfl, hm9, hl9⟩
   rw [E8.out] at hm9 ⊢
   dsimp only at hm9
   have HM9 := Lib.hid hm9
   clear hm9
   have HX9 := Lib.hid (blk_gl HX8.out hl9 so_)
   have HR9 := Lib.hid (blk_gl HR8.out hl9 so_)
   have HG9 := Lib.hid (gok_gl HG8.out hl9 so_)
   have hg9 : GL [X] w w9 := gl_step hl9 hg8 sx_
   have hs9 := hg9.size
   go_wp2_with fail
   refine (tBox k2 a2 lk2 la2 _ HG9.out).mono ?_
   rintro e w10 ⟨rfl, hb10⟩
   rw [E9.out]
   have HX10 := Lib.hid (blk_below HX9.out hb10 (blk_lt HX9.out))
   have HR10 := Lib.hid (blk_below HR9.out hb10 (blk_lt HR9.out))
   have HM10 := Lib.hid (blk_below HM9.out hb10 (blk_lt HM9.out))
   have HG10 := Lib.hid (gok_below HG9.out hb10)
   have hg10 : GL [X] w w10 := gl_below hb10 hg9
   have hs10 := hg10.size
   go_wp2_with fail
   refine (mTake bx g6 g7 M _ HM10.out).mono ?_
   rintro e w11 ⟨rfl, hm11, hl11⟩
   have HM11 := Lib.hid hm11
   clear hm11
   have HX11 := Lib.hid (blk_gl HX10.out hl11 so_)
   have HR11 := Lib.hid (blk_gl HR10.out hl11 so_)
   have HG11 := Lib.hid (gok_gl HG10.out hl11 so_)
   have hg11 : GL [X] w w11 := gl_step hl11 hg10 sx_
   have hs11 := hg11.size
   by_cases hg : g8 = 0
   · subst hg
     go_wp2_with fail
     refine (sOpensGood k3 lk3 (mkE g6 g7) (by rw [E10.out]) X M own drawn peer dials opn closed key okey oc ikey ic _ _ HX11.out HM11.out gnM hXg neXM HG11.out).mono ?_
     rintro e w12 ⟨rfl, hx12, hl12⟩
     rw [E10.out] at hx12
     dsimp only at hx12
     obtain ⟨oA, hoA⟩ : ∃ y, (if dials = true then o.1 else o.2) = y := ⟨_, rfl⟩
     obtain ⟨oB, hoB⟩ : ∃ y, (if dials = true then o.2 else o.1) = y := ⟨_, rfl⟩
     rw [hoA, hoB] at hx12
     have HOA := Lib.hid hoA
     have HOB := Lib.hid hoB
     have HX12 := Lib.hid hx12
     have HR12 := Lib.hid (blk_gl HR11.out hl12 so_)
     have hg12 : GL [X] w w12 := gl_step hl12 hg11 so_
     clear hx12 hoA hoB
     have x0 := blk_cell HX12.out
     have x1 := blk_free HX12.out
     have x2 := blk_lt HX12.out
     have z0 := blk_cell HR12.out
     have z1 := blk_free HR12.out
     have z2 := blk_lt HR12.out
     by_cases hta : t = a1
     · have H2 : Hid (twoM own drawn key t = (2, (o, bx))) := by show twoM _ _ _ _ = _; rw [H.out, if_neg si_, if_neg (by simp [hta])]
       have b2 : (t == a1) = true := by simp [hta]
       have b3 : (t != a1) = false := by simp [hta]
       clear hta
       go_wp2_with fail
       refine bodyPost_ret (v := .tuple #[.agg #[.string (bs bx), .string (bs []), .bool false], .bool true]) (by simp [results, Tryz.results48, go_sem, z0, z1, z2]) rfl ?_
       rw [H2.out]
       refine ⟨gl_, rfl, ?_⟩
       show SesAt _ X own drawn peer dials true closed key (if dials = true then o.1 else o.2) 0 (if dials = true then o.2 else o.1) 0 _
       rw [HOA.out, HOB.out]
       exact (blk_ne (blk_ne (blk_ne (blk_set HX12.out 4 _) (p := ⟨w.heap.size, 0, none⟩) so_ _) (p := ⟨w.heap.size, 1, none⟩) so_ _) (p := ⟨w.heap.size, 2, none⟩) so_ _)
     · have H2 : Hid (twoM own drawn key t = (1, (o, []))) := by show twoM _ _ _ _ = _; rw [H.out, if_neg si_, if_pos hta]
       have b2 : (t == a1) = false := by simpa using hta
       have b3 : (t != a1) = true := by simpa using hta
       clear hta
       go_wp2_with fail
       refine bodyPost_ret (v := .tuple #[.agg #[.string (bs []), .string (bs []), .bool false], .bool false]) (by simp [results, Tryz.results48, go_sem, z0, z1, z2]) rfl ?_
       rw [H2.out]
       refine ⟨(gl_setn si_ (gl_setn si_ (gl_setn si_ hg12 _) _) _), rfl, ?_⟩
       show SesAt _ X own drawn peer dials opn closed key (if dials = true then o.1 else o.2) 0 (if dials = true then o.2 else o.1) 0 _
       rw [HOA.out, HOB.out]
       exact (blk_ne (blk_ne (blk_ne HX12.out (p := ⟨w.heap.size, 0, none⟩) so_ _) (p := ⟨w.heap.size, 1, none⟩) so_ _) (p := ⟨w.heap.size, 2, none⟩) so_ _)
   · have H2 : Hid (twoM own drawn key t = (0, (([], []), []))) := by show twoM _ _ _ _ = _; rw [H.out, if_pos hg]
     go_wp2_with fail
     refine (sOpensBad k3 lk3 (mkE g6 g7) (by rw [E10.out]; exact hg) X M own drawn peer dials opn closed key okey oc ikey ic _ _ HX11.out HM11.out gnM neXM HG11.out).mono ?_
     rintro e w12 ⟨rfl, hm12, hl12⟩
     have HX12 := Lib.hid (blk_gl HX11.out hl12 so_)
     have HR12 := Lib.hid (blk_gl HR11.out hl12 so_)
     have hg12 : GL [X] w w12 := gl_step hl12 hg11 so_
     clear hm12 hg
     have z0 := blk_cell HR12.out
     have z1 := blk_free HR12.out
     have z2 := blk_lt HR12.out
     go_wp2_with fail
     refine bodyPost_ret (v := .tuple #[.agg #[.string (bs []), .string (bs []), .bool false], .bool false]) (by simp [results, Tryz.results48, go_sem, z0, z1, z2]) rfl ?_
     rw [H2.out]
     exact ⟨(gl_setn si_ (gl_setn si_ (gl_setn si_ hg12 _) _) _), rfl, (blk_ne (blk_ne (blk_ne HX12.out (p := ⟨w.heap.size, 0, none⟩) so_ _) (p := ⟨w.heap.size, 1, none⟩) so_ _) (p := ⟨w.heap.size, 2, none⟩) so_ _)⟩
end Go.Proofs.YtaaiaahkakkleaaGreatDoor
-- SesF
namespace Go.Proofs.YtaaiaahkakkleaaGreatDoor
open Go.RowKit
def ThreePost (X : Nat) (own drawn peer : List UInt8) (dials opn closed : Bool) (key okey : List UInt8) (oc : Int) (ikey : List UInt8) (ic : Int) (w : World) (r : Nat × ((List UInt8 × List UInt8) × List UInt8)) (e : Ending) (w' : World) : Prop :=
 GL [X] w w' ∧ e = .returned (.tuple #[.agg #[.string (bs []), .string (bs []), .bool false], .bool (r.1 == 2)]) ∧
  (if r.1 = 0 then SesAt w' X own drawn peer dials opn closed key okey oc ikey ic (.func (.func 67) #[.pointer (some ⟨X, 0, none⟩)] #[])
    else SesAt w' X own drawn (if r.1 = 2 then r.2.2 else peer) dials (r.1 == 2 || opn) closed key (if dials = true then r.2.1.1 else r.2.1.2) 0 (if dials = true then r.2.1.2 else r.2.1.1) 0 (.func (.func 96) #[.pointer (some ⟨X, 0, none⟩)] #[]))
theorem sThree (t : List UInt8) (X : Nat) (own drawn peer : List UInt8) (dials opn closed : Bool) (key okey : List UInt8) (oc : Int) (ikey : List UInt8) (ic : Int) (hown : own.length ≤ 9000000000000000000) (hdrawn : drawn.length ≤ 9000000000000000000) (hkey : key.length ≤ 9000000000000000000) (ht : t.length ≤ 9000000000000000000) (w : World) (hX : SesAt w X own drawn peer dials opn closed key okey oc ikey ic (.func (.func 67) #[.pointer (some ⟨X, 0, none⟩)] #[])) (hXg : gN ≤ X) (hG : GOk w) :
  Calls Tryz.prog 67 #[.pointer (some ⟨X, 0, none⟩), .string (bs t)] w (ThreePost X own drawn peer dials opn closed key okey oc ikey ic w (threeM drawn key t)) := by
 obtain ⟨n, bn, h0⟩ : ∃ n b, unboxT key t = (n, b) := ⟨_, _, rfl⟩
 have hnl : n.length ≤ 9000000000000000000 := by have := unboxT_len key t; rw [h0] at this; simp at this; omega
 obtain ⟨p, b, h1⟩ : ∃ p b, firstB n = (p, b) := ⟨_, _, rfl⟩
 have hpl : p.length ≤ 9000000000000000000 := by have := firstB_len n; rw [h1] at this; simp at this; omega
 have H0 := Lib.hid h0
 have H1 := Lib.hid h1
 have HG0 := Lib.hid hG
 have HX0 := Lib.hid hX
 have ltX := blk_lt hX
 have hs := hG.size
 clear h0 h1 hG hX
 cases b with
 | false =>
   have H : Hid (threeM drawn key t = (0, (([], []), []))) := by show threeM _ _ _ = _; unfold threeM; rw [H0.out, H1.out, if_pos rfl]
   go_enter Tryz.func67, Tryz.ntmps67
   have hg0 : GL [X] w w := gl_refl _ _
   have hs0 : w.heap.size ≤ w.heap.size := Nat.le_refl _
   have fa1 := blk_cell HX0.out
   have fb1 := blk_free HX0.out
   have fl1 := blk_lt HX0.out
   go_wp2_with fail
   clear fa1 fb1 fl1
   have HXr := Lib.hid (blk_alloc HX0.out (.cells #[.string (bs []), .string (bs []), .bool false] 53))
   have ltXR : X < w.heap.size := by have := blk_lt HX0.out; omega
   have neXR : X ≠ w.heap.size := by omega
   have neRX : w.heap.size ≠ X := by omega
   have HRr : Hid ((w.alloc (.cells #[.string (bs []), .string (bs []), .bool false] 53)).heap[w.heap.size]? = some (.cells #[.string (bs []), .string (bs []), .bool false] 53 (0, 0))) := by
    have h := blk_new w (.cells #[.string (bs []), .string (bs []), .bool false] 53)
    exact h
   have HGr := Lib.hid (gok_alloc HG0.out (.cells #[.string (bs []), .string (bs []), .bool false] 53))
   have hgr : GL [X] w (w.alloc (.cells #[.string (bs []), .string (bs []), .bool false] 53)) := (gl_alloc hg0 (.cells #[.string (bs []), .string (bs []), .bool false] 53))
   generalize (w.alloc (.cells #[.string (bs []), .string (bs []), .bool false] 53)) = wr at *
   have hsr := hgr.size
   refine (tUnbox key t ht _ HGr.out).mono ?_
   rintro e w1 ⟨rfl, hb1⟩
   rw [H0.out]
   have HX1 := Lib.hid (blk_below HXr.out hb1 (blk_lt HXr.out))
   have HR1 := Lib.hid (blk_below HRr.out hb1 (blk_lt HRr.out))
   have HG1 := Lib.hid (gok_below HGr.out hb1)
   have hg1 : GL [X] w w1 := gl_below hb1 hgr
   have hs1 := hg1.size
   go_wp2_with fail
   refine (sFirst n hnl _ HG1.out).mono ?_
   rintro e w2 ⟨rfl, hb2⟩
   rw [H1.out]
   have HX2 := Lib.hid (blk_below HX1.out hb2 (blk_lt HX1.out))
   have HR2 := Lib.hid (blk_below HR1.out hb2 (blk_lt HR1.out))
   have HG2 := Lib.hid (gok_below HG1.out hb2)
   have hg2 : GL [X] w w2 := gl_below hb2 hg1
   have hs2 := hg2.size
   have z0 := blk_cell HR2.out
   have z1 := blk_free HR2.out
   have z2 := blk_lt HR2.out
   go_wp2_with fail
   refine bodyPost_ret (v := .tuple #[.agg #[.string (bs []), .string (bs []), .bool false], .bool false]) (by simp [results, Tryz.results67, go_sem, z0, z1, z2]) rfl ?_
   rw [H.out]
   exact ⟨(gl_setn si_ (gl_setn si_ (gl_setn si_ hg2 _) _) _), rfl, (blk_ne (blk_ne (blk_ne HX2.out (p := ⟨w.heap.size, 0, none⟩) so_ _) (p := ⟨w.heap.size, 1, none⟩) so_ _) (p := ⟨w.heap.size, 2, none⟩) so_ _)⟩
 | true =>
   obtain ⟨x1, g1, e3⟩ : ∃ x g, agreeM 0 drawn p = (x, g) := ⟨_, _, rfl⟩
   obtain ⟨k3, g2, e4⟩ : ∃ x g, hashM g1 key x1 = (x, g) := ⟨_, _, rfl⟩
   obtain ⟨a1, g3, e7⟩ : ∃ x g, actM g2 p k3 = (x, g) := ⟨_, _, rfl⟩
   obtain ⟨o, g8, e10⟩ : ∃ x g, opensM g3 k3 = (x, g) := ⟨_, _, rfl⟩
   have lx1 : x1.length ≤ 9000000000000000000 := by have := agreeM_len 0 drawn p; rw [e3] at this; simp at this; omega
   have lk3 : k3.length ≤ 9000000000000000000 := by have := hashM_len g1 key x1; rw [e4] at this; simp at this; omega
   have H : Hid (threeM drawn key t = if g8 ≠ 0 then (0, (([], []), [])) else if n ≠ a1 then (1, (o, [])) else (2, (o, p))) := by
    show threeM _ _ _ = _
    unfold threeM
    simp only [H0.out, H1.out, e3, e4, e7, e10]
    rw [if_neg si_]
   have E3 := Lib.hid e3
   have E4 := Lib.hid e4
   have E7 := Lib.hid e7
   have E10 := Lib.hid e10
   clear e3 e4 e7 e10
   go_enter Tryz.func67, Tryz.ntmps67
   have hg0 : GL [X] w w := gl_refl _ _
   have hs0 : w.heap.size ≤ w.heap.size := Nat.le_refl _
   have fa1 := blk_cell HX0.out
   have fb1 := blk_free HX0.out
   have fl1 := blk_lt HX0.out
   go_wp2_with fail
   clear fa1 fb1 fl1
   have HXr := Lib.hid (blk_alloc HX0.out (.cells #[.string (bs []), .string (bs []), .bool false] 53))
   have ltXR : X < w.heap.size := by have := blk_lt HX0.out; omega
   have neXR : X ≠ w.heap.size := by omega
   have neRX : w.heap.size ≠ X := by omega
   have HRr : Hid ((w.alloc (.cells #[.string (bs []), .string (bs []), .bool false] 53)).heap[w.heap.size]? = some (.cells #[.string (bs []), .string (bs []), .bool false] 53 (0, 0))) := by
    have h := blk_new w (.cells #[.string (bs []), .string (bs []), .bool false] 53)
    exact h
   have HGr := Lib.hid (gok_alloc HG0.out (.cells #[.string (bs []), .string (bs []), .bool false] 53))
   have hgr : GL [X] w (w.alloc (.cells #[.string (bs []), .string (bs []), .bool false] 53)) := (gl_alloc hg0 (.cells #[.string (bs []), .string (bs []), .bool false] 53))
   generalize (w.alloc (.cells #[.string (bs []), .string (bs []), .bool false] 53)) = wr at *
   have hsr := hgr.size
   refine (tUnbox key t ht _ HGr.out).mono ?_
   rintro e w1 ⟨rfl, hb1⟩
   rw [H0.out]
   have HX1 := Lib.hid (blk_below HXr.out hb1 (blk_lt HXr.out))
   have HR1 := Lib.hid (blk_below HRr.out hb1 (blk_lt HRr.out))
   have HG1 := Lib.hid (gok_below HGr.out hb1)
   have hg1 : GL [X] w w1 := gl_below hb1 hgr
   have hs1 := hg1.size
   go_wp2_with fail
   refine (sFirst n hnl _ HG1.out).mono ?_
   rintro e w2 ⟨rfl, hb2⟩
   rw [H1.out]
   have HX2 := Lib.hid (blk_below HX1.out hb2 (blk_lt HX1.out))
   have HR2 := Lib.hid (blk_below HR1.out hb2 (blk_lt HR1.out))
   have HG2 := Lib.hid (gok_below HG1.out hb2)
   have hg2 : GL [X] w w2 := gl_below hb2 hg1
   have hs2 := hg2.size
   go_wp2_with fail
   have HX3 := Lib.hid (blk_alloc HX2.out (.cells #[.int .i64 0] 106))
   have ltXM : X < w2.heap.size := by have := blk_lt HX2.out; omega
   have neXM : X ≠ w2.heap.size := by omega
   have neMX : w2.heap.size ≠ X := by omega
   have HR3 := Lib.hid (blk_alloc HR2.out (.cells #[.int .i64 0] 106))
   have ltRM : w.heap.size < w2.heap.size := by have := blk_lt HR2.out; omega
   have neRM : w.heap.size ≠ w2.heap.size := by omega
   have neMR : w2.heap.size ≠ w.heap.size := by omega
   have HM3 : Hid ((w2.alloc (.cells #[.int .i64 0] 106)).heap[w2.heap.size]? = some (.cells #[.int .i64 0] 106 (0, 0))) := by
    have h := blk_new w2 (.cells #[.int .i64 0] 106)
    exact h
   have HG3 := Lib.hid (gok_alloc HG2.out (.cells #[.int .i64 0] 106))
   have hg3 : GL [X] w (w2.alloc (.cells #[.int .i64 0] 106)) := (gl_alloc hg2 (.cells #[.int .i64 0] 106))
   have geM : w.heap.size ≤ w2.heap.size := by have := hg2.size; omega
   have gnM : gN ≤ w2.heap.size := by have := HG2.out.size; omega
   generalize (w2.alloc (.cells #[.int .i64 0] 106)) = w3 at *
   generalize w2.heap.size = M at *
   have hs3 := hg3.size
   have fa2 := blk_cell HX3.out
   have fb2 := blk_free HX3.out
   have fl2 := blk_lt HX3.out
   go_region_held3 (fun w' => w'.cell? ⟨X, 6, none⟩ = some (.string (bs key)) ∧ w'.cell? ⟨X, 1, none⟩ = some (.string (bs drawn)))
    (first | go_keep | (refine ⟨?_, ?_⟩ <;> (first | exact blk_cell HX4.out 6 | exact blk_cell HX4.out 1 | exact blk_cell HX5.out 6 | exact blk_cell HX5.out 1)))
    ((first
       | (go_at_call 46
          refine (mAgree drawn p hdrawn hpl 0 M gnM _ (by first | exact HM3.out | exact blk_drew HM3.out | exact blk_drewN HM3.out _) (by first | exact HG3.out | exact gok_drew HG3.out | exact gok_drewN HG3.out _)).mono ?_
          rintro e w4 ⟨rfl, hm4, hd4⟩
          have hl4 : GL [M] w3 w4 := ⟨hd4.os, hd4.tape, hd4.output, hd4.size, hd4.block⟩
          rw [E3.out] at hm4 ⊢
          dsimp only at hm4
          have HM4 := Lib.hid hm4
          clear hm4 hd4
          have HX4 := Lib.hid (blk_gl HX3.out hl4 so_)
          have HR4 := Lib.hid (blk_gl HR3.out hl4 so_)
          have HG4 := Lib.hid (gok_gl HG3.out hl4 so_)
          have hg4 : GL [X] w w4 := gl_step hl4 hg3 sx_
          have hs4 : w.heap.size ≤ w4.heap.size := hg4.size)
       | (go_at_call 45
          refine (mHash key x1 hkey lx1 g1 M gnM _ (by first | exact HM4.out | exact blk_drew HM4.out | exact blk_drewN HM4.out _) (by first | exact HG4.out | exact gok_drew HG4.out | exact gok_drewN HG4.out _)).mono ?_
          rintro e w5 ⟨rfl, hm5, hd5⟩
          have hl5 : GL [M] w4 w5 := ⟨hd5.os, hd5.tape, hd5.output, hd5.size, hd5.block⟩
          rw [E4.out] at hm5 ⊢
          dsimp only at hm5
          have HM5 := Lib.hid hm5
          clear hm5 hd5
          have HX5 := Lib.hid (blk_gl HX4.out hl5 so_)
          have HR5 := Lib.hid (blk_gl HR4.out hl5 so_)
          have HG5 := Lib.hid (gok_gl HG4.out hl5 so_)
          have hg5 : GL [X] w w5 := gl_step hl5 hg4 sx_
          have hs5 : w.heap.size ≤ w5.heap.size := hg5.size)))
   clear fa2 fb2 fl2
   go_wp2_with fail
   refine (mAct p k3 hpl lk3 g2 M gnM _ HM5.out HG5.out).mono ?_
   rintro e w11 ⟨rfl, hm11, hl11⟩
   rw [E7.out] at hm11 ⊢
   dsimp only at hm11
   have HM11 := Lib.hid hm11
   clear hm11
   have HX11 := Lib.hid (blk_gl HX5.out hl11 so_)
   have HR11 := Lib.hid (blk_gl HR5.out hl11 so_)
   have HG11 := Lib.hid (gok_gl HG5.out hl11 so_)
   have hg11 : GL [X] w w11 := gl_step hl11 hg5 sx_
   have hs11 := hg11.size
   by_cases hg : g8 = 0
   · subst hg
     go_wp2_with fail
     refine (sOpensGood k3 lk3 g3 (by rw [E10.out]) X M own drawn peer dials opn closed key okey oc ikey ic _ _ HX11.out HM11.out gnM hXg neXM HG11.out).mono ?_
     rintro e w12 ⟨rfl, hx12, hl12⟩
     rw [E10.out] at hx12
     dsimp only at hx12
     obtain ⟨oA, hoA⟩ : ∃ y, (if dials = true then o.1 else o.2) = y := ⟨_, rfl⟩
     obtain ⟨oB, hoB⟩ : ∃ y, (if dials = true then o.2 else o.1) = y := ⟨_, rfl⟩
     rw [hoA, hoB] at hx12
     have HOA := Lib.hid hoA
     have HOB := Lib.hid hoB
     have HX12 := Lib.hid hx12
     have HR12 := Lib.hid (blk_gl HR11.out hl12 so_)
     have hg12 : GL [X] w w12 := gl_step hl12 hg11 so_
     clear hx12 hoA hoB
     have x0 := blk_cell HX12.out
     have x1 := blk_free HX12.out
     have x2 := blk_lt HX12.out
     have z0 := blk_cell HR12.out
     have z1 := blk_free HR12.out
     have z2 := blk_lt HR12.out
     by_cases hta : n = a1
     · have H2 : Hid (threeM drawn key t = (2, (o, p))) := by show threeM _ _ _ = _; rw [H.out, if_neg si_, if_neg (by simp [hta])]
       have b2 : (n == a1) = true := by simp [hta]
       have b3 : (n != a1) = false := by simp [hta]
       clear hta
       go_wp2_with fail
       refine bodyPost_ret (v := .tuple #[.agg #[.string (bs []), .string (bs []), .bool false], .bool true]) (by simp [results, Tryz.results67, go_sem, z0, z1, z2]) rfl ?_
       rw [H2.out]
       refine ⟨gl_, rfl, ?_⟩
       show SesAt _ X own drawn p dials true closed key (if dials = true then o.1 else o.2) 0 (if dials = true then o.2 else o.1) 0 _
       rw [HOA.out, HOB.out]
       exact (blk_ne (blk_ne (blk_ne (blk_set (blk_set HX12.out 4 _) 2 _) (p := ⟨w.heap.size, 0, none⟩) so_ _) (p := ⟨w.heap.size, 1, none⟩) so_ _) (p := ⟨w.heap.size, 2, none⟩) so_ _)
     · have H2 : Hid (threeM drawn key t = (1, (o, []))) := by show threeM _ _ _ = _; rw [H.out, if_neg si_, if_pos hta]
       have b2 : (n == a1) = false := by simpa using hta
       have b3 : (n != a1) = true := by simpa using hta
       clear hta
       go_wp2_with fail
       refine bodyPost_ret (v := .tuple #[.agg #[.string (bs []), .string (bs []), .bool false], .bool false]) (by simp [results, Tryz.results67, go_sem, z0, z1, z2]) rfl ?_
       rw [H2.out]
       refine ⟨(gl_setn si_ (gl_setn si_ (gl_setn si_ hg12 _) _) _), rfl, ?_⟩
       show SesAt _ X own drawn peer dials opn closed key (if dials = true then o.1 else o.2) 0 (if dials = true then o.2 else o.1) 0 _
       rw [HOA.out, HOB.out]
       exact (blk_ne (blk_ne (blk_ne HX12.out (p := ⟨w.heap.size, 0, none⟩) so_ _) (p := ⟨w.heap.size, 1, none⟩) so_ _) (p := ⟨w.heap.size, 2, none⟩) so_ _)
   · have H2 : Hid (threeM drawn key t = (0, (([], []), []))) := by show threeM _ _ _ = _; rw [H.out, if_pos hg]
     go_wp2_with fail
     refine (sOpensBad k3 lk3 g3 (by rw [E10.out]; exact hg) X M own drawn peer dials opn closed key okey oc ikey ic _ _ HX11.out HM11.out gnM neXM HG11.out).mono ?_
     rintro e w12 ⟨rfl, hm12, hl12⟩
     have HX12 := Lib.hid (blk_gl HX11.out hl12 so_)
     have HR12 := Lib.hid (blk_gl HR11.out hl12 so_)
     have hg12 : GL [X] w w12 := gl_step hl12 hg11 so_
     clear hm12 hg
     have z0 := blk_cell HR12.out
     have z1 := blk_free HR12.out
     have z2 := blk_lt HR12.out
     go_wp2_with fail
     refine bodyPost_ret (v := .tuple #[.agg #[.string (bs []), .string (bs []), .bool false], .bool false]) (by simp [results, Tryz.results67, go_sem, z0, z1, z2]) rfl ?_
     rw [H2.out]
     exact ⟨(gl_setn si_ (gl_setn si_ (gl_setn si_ hg12 _) _) _), rfl, (blk_ne (blk_ne (blk_ne HX12.out (p := ⟨w.heap.size, 0, none⟩) so_ _) (p := ⟨w.heap.size, 1, none⟩) so_ _) (p := ⟨w.heap.size, 2, none⟩) so_ _)⟩
end Go.Proofs.YtaaiaahkakkleaaGreatDoor
-- SesG
namespace Go.Proofs.YtaaiaahkakkleaaGreatDoor
open Go.RowKit
theorem own_one {w : World} {base e g : Nat} {v : Value} (hb : base ≤ g) (hg : w.heap[g]? = some (.cells #[v] e (0, 0))) : w.ownsRow base e 1 (.slice (some ⟨g, 0, none⟩) 1 1) 1 [v] :=
 ⟨rfl, .inr ⟨g, 1, #[v], rfl, hb, hg, Nat.le_refl _, by decide, rfl, rfl⟩⟩
def MkLoop (key : List UInt8) (c : Nat) (s : List UInt8) (w : World) (lv sv : Value) (wr : World) : Prop :=
 ∃ (done : List (List UInt8)) (rest : List UInt8), PProg s done rest ∧ sv = .string (bs rest) ∧ wr.ownsRow (w.heap.size + 1 + 1) 22 1 lv (done.length + 1) ((textL (Lib.decDigits c) :: done.map textL).map fun y => .string (bs y)) ∧
  wr.heap[w.heap.size]? = some (.cells #[.string (bs key), .int .i64 c] 87 (0, 0)) ∧ MkAt wr (w.heap.size + 1) 0 ∧ Below w.heap.size w wr
theorem sMake (key : List UInt8) (c : Nat) (s : List UInt8) (hk : key.length ≤ 9000000000000000000) (hc : c ≤ 1000) (hs : s.length ≤ 1000000) (w : World) (hG : GOk w) :
  Calls Tryz.prog 32 #[.agg #[.string (bs key), .int .i64 c], .string (bs s)] w fun e w' => e = .returned (.tuple #[.string (bs (makeM key c s).1), .int .i64 (makeM key c s).2]) ∧ Below w.heap.size w w' := by
 have hdl : (Lib.decDigits c).length ≤ 20 := dec_len20 c om_
 have HT := Lib.hid (textT_ok (Lib.decDigits c) om_)
 have HG0 := Lib.hid hG
 have hsz := hG.size
 clear hG
 obtain ⟨t0, ht0, ht1, ht2, ht3⟩ := info_parts Tryz.infoTerm
 go_enter Tryz.func32, Tryz.ntmps32
 go_wp2_with fail
 have hg0 : GL [] w w := gl_refl _ _
 have hs0 : w.heap.size ≤ w.heap.size := Nat.le_refl _
 have HW0a : Hid (((w.alloc (.cells #[.string (bs key), .int .i64 c] 87)).alloc (.cells #[.int .i64 0] 106)).heap[w.heap.size]? = some (.cells #[.string (bs key), .int .i64 c] 87 (0, 0))) := by
  have h := blk_new w (.cells #[.string (bs key), .int .i64 c] 87)
  exact (blk_alloc h (.cells #[.int .i64 0] 106))
 have HM0a : Hid (((w.alloc (.cells #[.string (bs key), .int .i64 c] 87)).alloc (.cells #[.int .i64 0] 106)).heap[w.heap.size + 1]? = some (.cells #[.int .i64 0] 106 (0, 0))) := by
  have h := blk_new (w.alloc (.cells #[.string (bs key), .int .i64 c] 87)) (.cells #[.int .i64 0] 106)
  rw [show (w.alloc (.cells #[.string (bs key), .int .i64 c] 87)).heap.size = w.heap.size + 1 by simp] at h
  exact h
 have HG0a := Lib.hid (gok_alloc (gok_alloc HG0.out (.cells #[.string (bs key), .int .i64 c] 87)) (.cells #[.int .i64 0] 106))
 have hg0a : GL [] w ((w.alloc (.cells #[.string (bs key), .int .i64 c] 87)).alloc (.cells #[.int .i64 0] 106)) := (gl_alloc (gl_alloc hg0 (.cells #[.string (bs key), .int .i64 c] 87)) (.cells #[.int .i64 0] 106))
 generalize ((w.alloc (.cells #[.string (bs key), .int .i64 c] 87)).alloc (.cells #[.int .i64 0] 106)) = w0a at *
 have hs0a := hg0a.size
 refine (tItoa c om_ om_ _ HG0a.out).mono ?_
 rintro e w1 ⟨rfl, hb1⟩
 rw [Int.toNat_natCast]
 have HM1 := Lib.hid (blk_below HM0a.out hb1 (blk_lt HM0a.out))
 have HW1 := Lib.hid (blk_below HW0a.out hb1 (blk_lt HW0a.out))
 have HG1 := Lib.hid (gok_below HG0a.out hb1)
 have hg1 : GL [] w w1 := gl_below hb1 hg0a
 have hs1 := hg1.size
 go_wp2_with fail
 refine (tMkText (Lib.decDigits c) om_ _ HG1.out).mono ?_
 rintro e w2 ⟨rfl, hb2⟩
 rw [HT.out]
 have HM2 := Lib.hid (blk_below HM1.out hb2 (blk_lt HM1.out))
 have HW2 := Lib.hid (blk_below HW1.out hb2 (blk_lt HW1.out))
 have HG2 := Lib.hid (gok_below HG1.out hb2)
 have hg2 : GL [] w w2 := gl_below hb2 hg1
 have hs2 := hg2.size
 go_wp2_with fail
 refine (mTake (textL (Lib.decDigits c)) 0 0 (w.heap.size + 1) _ HM2.out).mono ?_
 rintro e w3 ⟨rfl, hm3, hl3⟩
 have HM3 : Hid (MkAt w3 (w.heap.size + 1) 0) := hm3
 have HW3 := Lib.hid (blk_gl HW2.out hl3 si_)
 have HG3 := Lib.hid (gok_gl HG2.out hl3 so_)
 have hb3 : Below w.heap.size w w3 := gl_to_below (gl_step hl3 hg2 si_)
 have hl0 := blk_lt HM3.out
 clear hm3 hl3 hg0 hs0 hg0a hs0a hg1 hs1 hg2 hs2 HM0a HM1 HM2 HW0a HW1 HW2 HG0a HG1 HG2 hb1 hb2
 go_wp2_with fail
 go_loopw [7, 1] (fun lv sv wr => MkLoop key c s w lv sv wr) (fun _ sv _ => match sv with | .string b => b.size | _ => 0)
 case atStart =>
  refine ⟨[], s, pprog_start s, rfl, own_one om_ (blk_new w3 _), blk_alloc HW3.out _, mkat_alloc HM3.out _, bl_⟩
 case round =>
  obtain ⟨done, rest, hpr, rfl, hown, hW, hM, hbel⟩ := hrel
  have HPR := Lib.hid hpr
  have HWr := Lib.hid hW
  have HMr := Lib.hid hM
  have hWl := blk_lt hW
  have hMl := blk_lt hM
  have hrl : rest.length ≤ s.length := hpr.2.1
  have hdn : done.length + rest.length ≤ s.length := hpr.2.2
  have HGr := Lib.hid (gok_below HG0.out hbel)
  have hbs := hbel.size
  clear hpr hW hM
  by_cases hr : rest = []
  · subst hr
    obtain ⟨ls, hls⟩ : ∃ ls, textL (Lib.decDigits c) :: done.map textL = ls := ⟨_, rfl⟩
    have hlen : done.length + 1 = ls.length := by rw [← hls]; simp
    have hfr : frameL c s = ls := by unfold frameL; rw [pprog_end HPR.out, hls]
    rw [hls, hlen] at hown
    have hlsl : ∀ x ∈ ls, x.length ≤ 9000000000000000000 := by
     intro x hx
     rw [← hls] at hx
     rcases List.mem_cons.1 hx with rfl | hx
     · have := (textL_len (Lib.decDigits c) om_).1; omega
     · obtain ⟨y, hy, rfl⟩ := List.mem_map.1 hx
       have h1 : y ∈ pieces s.length s := by rw [pprog_end HPR.out]; exact hy
       have h2 := pieces_each _ _ y h1
       have := (textL_len y h2).1; omega
    have hll : ls.length ≤ 9000000000000000000 := by omega
    obtain ⟨tp, gt, htp⟩ : ∃ x g, tupleT ls = (x, g) := ⟨_, _, rfl⟩
    obtain ⟨bx, gb, hbx⟩ : ∃ x g, twoT 66 key tp = (x, g) := ⟨_, _, rfl⟩
    have htl : tp.length ≤ 9000000000000000000 := by have := tupleT_len ls; rw [htp] at this; simp at this; omega
    have H : Hid (makeM key c s = (bx, mkE gt gb)) := by show makeM _ _ _ = _; simp only [makeM, hfr, htp, hbx]
    have E1 := Lib.hid htp
    have E2 := Lib.hid hbx
    obtain ⟨g, cap, hv, hgb, hgw, hcap, hcap2, hcell⟩ := own_cells hown om_
    subst hv
    have hcell2 : Hid (∀ (j : Nat) (z : List UInt8), ls[j]? = some z → wr.cell? ⟨g, j, none⟩ = some (.string (bs z))) := fun j z hz => hcell j _ (by simp [List.getElem?_map, hz])
    have k0 : wr.cell? ⟨w.heap.size, 0, none⟩ = some (.string (bs key)) := blk_cell HWr.out 0
    clear hls hlen hfr htp hbx hcell HPR hown hrl hdn hcap2
    go_wp2_with fail
    have HMr2 := HMr
    have hgr : GL [] w wr := ⟨hbel.os, hbel.tape, hbel.output, hbel.size, fun k hk _ => hbel.block k hk⟩
    have hgM : w.heap.size ≤ w.heap.size + 1 := by omega
    have tok7 : True := trivial
    have tok8 : True := trivial
    have tok9 : True := trivial
    have tok10 : True := trivial
    go_region_held3 (fun w' => w'.cell? ⟨w.heap.size, 0, none⟩ = some (.string (bs key)))
     (first | go_keep | exact blk_cell HW7.out 0 | exact blk_cell HW8.out 0 | exact blk_cell HW9.out 0 | exact blk_cell HW10.out 0)
     ((first
        | (go_at_call 60
           have _t7 := tok7
           go_must (refine (tMkTuple ls g cap hlsl hll _ (by simpa using hgw) (by first | exact hcell2.out | exact fun j z h => cell_drew_some (hcell2.out j z h)) (by first | exact HGr.out | exact gok_drew HGr.out | exact gok_drewN HGr.out _)).mono ?_)
           rintro e w7 ⟨rfl, hd7⟩
           have hb7 : Below wr.heap.size wr w7 := ⟨hd7.os, hd7.tape, hd7.output, hd7.size, hd7.block⟩
           rw [E1.out]
           clear hd7
           have HW7 := Lib.hid (blk_below HWr.out hb7 (blk_lt HWr.out))
           have HM7 := Lib.hid (blk_below HMr.out hb7 (blk_lt HMr.out))
           have HG7 := Lib.hid (gok_below HGr.out hb7)
           have hg7 : GL [] w w7 := gl_below hb7 hgr
           have hs7 := hg7.size
           clear _t7 tok7)
        | (go_at_call 56
           have _t8 := tok8
           have _p8 := hs7
           clear _p8
           go_must (refine (mTake tp 0 gt (w.heap.size + 1) _ (by first | exact HM7.out | exact blk_drew HM7.out | exact blk_drewN HM7.out _)).mono ?_)
           rintro e w8 ⟨rfl, hm8, hd8⟩
           have hl8 : GL [(w.heap.size + 1)] w7 w8 := ⟨hd8.os, hd8.tape, hd8.output, hd8.size, hd8.block⟩
           rw [show mkE 0 gt = gt from rfl] at hm8
           have HM8 := Lib.hid hm8
           clear hm8 hd8
           have HW8 := Lib.hid (blk_gl HW7.out hl8 sx_)
           have HG8 := Lib.hid (gok_gl HG7.out hl8 sx_)
           have hg8 : GL [] w w8 := gl_step hl8 hg7 sx_
           have hs8 := hg8.size
           clear _t8 tok8)
        | (go_at_call 59
           have _t9 := tok9
           have _p9 := hs8
           clear _p9
           go_must (refine (tBox key tp hk htl _ (by first | exact HG8.out | exact gok_drew HG8.out | exact gok_drewN HG8.out _)).mono ?_)
           rintro e w9 ⟨rfl, hd9⟩
           have hb9 : Below w8.heap.size w8 w9 := ⟨hd9.os, hd9.tape, hd9.output, hd9.size, hd9.block⟩
           rw [E2.out]
           clear hd9
           have HW9 := Lib.hid (blk_below HW8.out hb9 (blk_lt HW8.out))
           have HM9 := Lib.hid (blk_below HM8.out hb9 (blk_lt HM8.out))
           have HG9 := Lib.hid (gok_below HG8.out hb9)
           have hg9 : GL [] w w9 := gl_below hb9 hg8
           have hs9 := hg9.size
           clear _t9 tok9)
        | (go_at_call 56
           have _t10 := tok10
           have _p10 := hs9
           clear _p10
           go_must (refine (mTake bx gt gb (w.heap.size + 1) _ (by first | exact HM9.out | exact blk_drew HM9.out | exact blk_drewN HM9.out _)).mono ?_)
           rintro e w10 ⟨rfl, hm10, hd10⟩
           have hl10 : GL [(w.heap.size + 1)] w9 w10 := ⟨hd10.os, hd10.tape, hd10.output, hd10.size, hd10.block⟩
           dsimp only at hm10
           have HM10 := Lib.hid hm10
           clear hm10 hd10
           have HW10 := Lib.hid (blk_gl HW9.out hl10 sx_)
           have HG10 := Lib.hid (gok_gl HG9.out hl10 sx_)
           have hg10 : GL [] w w10 := gl_step hl10 hg9 sx_
           have hs10 := hg10.size
           clear _t10 tok10)))
    go_wp2_with fail
    have fa1 := blk_cell HM10.out
    have fb1 := blk_free HM10.out
    have fl1 := blk_lt HM10.out
    go_region
    go_wp2_with fail
    go_ret2
    exact ⟨by rw [H.out]; rfl, gl_to_below (gl_drew hg10)⟩
  · have hpos : 1 ≤ rest.length := by
     cases rest with
     | nil => exact absurd rfl hr
     | cons _ _ => simp
    have hpi : (0 : Int) < (rest.length : Int) := by omega
    have e1 : List.take (min (rest.length : Int) 4096).toNat rest = rest.take 4096 := by
     rw [show (min (rest.length : Int) 4096).toNat = min rest.length 4096 by omega, ← List.take_take]
     exact List.take_of_length_le so_
    have e2 : List.take (rest.length - (min (rest.length : Int) 4096).toNat) (List.drop (min (rest.length : Int) 4096).toNat rest) = rest.drop 4096 := by
     rw [show (min (rest.length : Int) 4096).toNat = min rest.length 4096 by omega, List.take_of_length_le si_]
     by_cases h4 : rest.length ≤ 4096
     · rw [Nat.min_eq_left h4, List.drop_length, List.drop_of_length_le h4]
     · rw [Nat.min_eq_right om_]
    have E2 := Lib.hid e2
    clear e2
    have hpl : (rest.take 4096).length ≤ 4096 := by simp; omega
    have HTP := Lib.hid (textT_ok (rest.take 4096) hpl)
    have hpl2 : (rest.take 4096).length ≤ 9000000000000000000 := by omega
    obtain ⟨pc, hpc⟩ : ∃ pc, rest.take 4096 = pc := ⟨_, rfl⟩
    rw [hpc] at e1 HTP hpl2
    have HPC := Lib.hid hpc
    clear hpc hpl
    go_wp2_with fail
    refine (tMkText pc hpl2 _ HGr.out).mono ?_
    rintro e w4 ⟨rfl, hb4⟩
    rw [HTP.out]
    have HG4 := Lib.hid (gok_below HGr.out hb4)
    have HM4 := Lib.hid (mkat_below HMr.out hb4)
    have HW4 := Lib.hid (blk_below HWr.out hb4 hWl)
    have hown4 := own_below hown hb4 rfl
    go_wp2_with fail
    refine (mTake (textL pc) 0 0 (w.heap.size + 1) _ HM4.out).mono ?_
    rintro e w5 ⟨rfl, hm5, hl5⟩
    have HM5 : Hid (MkAt w5 (w.heap.size + 1) 0) := hm5
    have HW5 := Lib.hid (blk_gl HW4.out hl5 si_)
    have hown5 := own_gl hown4 hl5 (by
     intro r hr
     simp only [List.mem_singleton] at hr
     subst hr
     intro h
     have := own_ge hown4 _ h
     omega)
    have hb5 : Below w.heap.size w w5 := by
     have h4 : Below w.heap.size w w4 := hbel.trans (hb4.mono hbel.size)
     refine gl_to_below (gl_step hl5 ⟨h4.os, h4.tape, h4.output, h4.size, fun k hk _ => h4.block k hk⟩ ?_)
     simp
    clear hm5
    obtain ⟨ad, kn, kc, hkv⟩ := own_slice hown5
    subst hkv
    go_wp2_with (at_builtin; go_must (refine wpList_append_own _ rfl _ _ 31 rfl (w.heap.size + 1 + 1) 22 t0 (.string ByteArray.empty) 1 16 Tryz.underlying31 ht0 ht1 ht2 ht3 rfl de_ _ _ _ rfl (own_alloc hown5 _) ⟨w5.heap.size, 0, none⟩ 1 1 [.string (bs (textL pc))] rfl rfl ?c1 ?c2 ?c3 ?c4 ?c5 ?_; (case c1 => (exact cell_one_at rfl)); (case c2 => exact one1 rfl); (case c3 => (unfold maxLen; omega)); (case c4 => (omega)); (case c5 => (have := blk_lt HM5.out; first | (simp; done) | (simp; omega))); (intro v' w6 hown6 hgr6 _); (obtain ⟨ad6, n6, cp6, hv6⟩ := own_slice hown6); (subst hv6)))
    go_roundw
    case rel =>
     have hneW := own_ne hown5 HW5.out de_
     have hneM := own_ne hown5 HM5.out de_
     have hpn := pprog_next HPR.out hr
     rw [HPC.out] at hpn
     refine ⟨done ++ [pc], rest.drop 4096, hpn, by rw [E2.out], ?_, blk_grown (blk_alloc HW5.out _) hgr6 hneW, blk_grown (blk_alloc HM5.out _) hgr6 hneM, ?_⟩
     · have e3 : (textL (Lib.decDigits c) :: (done ++ [pc]).map textL).map (fun y => Value.string (bs y)) = ((textL (Lib.decDigits c) :: done.map textL).map fun y => Value.string (bs y)) ++ [.string (bs (textL pc))] := by simp
       rw [e3, show (done ++ [pc]).length + 1 = done.length + 1 + 1 by simp]
       exact hown6
     · have h5 : Below w.heap.size w (w5.alloc (.cells #[.string (bs (textL pc))] 22)) := hb5.alloc hb5.size _
       refine h5.grown hgr6 h5.size (fun g hg => ?_)
       have := own_ge hown5 g hg
       omega
    case measure =>
     rw [E2.out]
     show (bs (rest.drop 4096)).size < (bs rest).size
     rw [bs_size, bs_size, List.length_drop]
     omega
end Go.Proofs.YtaaiaahkakkleaaGreatDoor
-- SesH
namespace Go.Proofs.YtaaiaahkakkleaaGreatDoor
open Go.RowKit
theorem sOnOut (X : Nat) (own drawn peer : List UInt8) (dials opn closed : Bool) (key okey : List UInt8) (oc : Nat) (ikey : List UInt8) (ic : Int) (nx : Value) (hk : okey.length ≤ 9000000000000000000) (hc : oc ≤ 99) (w : World) (hX : SesAt w X own drawn peer dials opn closed key okey oc ikey ic nx) (hXg : gN ≤ X) (hG : GOk w) :
  Calls Tryz.prog 33 #[.pointer (some ⟨X, 7, none⟩)] w fun e w' => e = .returned (.tuple #[]) ∧ SesAt w' X own drawn peer dials opn closed key (onM okey oc).1 ((onM okey oc).2 : Nat) ikey ic nx ∧ GL [X] w w' := by
 have HG0 := Lib.hid hG
 have HX0 := Lib.hid hX
 have ltX := blk_lt hX
 have hs := hG.size
 clear hG hX
 by_cases h : oc = 99
 · have b1 : ((oc : Int) + 1 == 100) = true := beq_iff_eq.2 om_
   have i2 : (oc : Int) ≤ 99 := by omega
   obtain ⟨y, g, e1⟩ : ∃ y g, childM 0 okey lNext = (y, g) := ⟨_, _, rfl⟩
   have H : Hid (onM okey oc = (y, 0)) := by show onM _ _ = _; simp [onM, e1, h]
   have E1 := Lib.hid e1
   clear e1 h
   go_enter Tryz.func33, Tryz.ntmps33
   have hg0 : GL [X] w w := gl_refl _ _
   have hs0 : w.heap.size ≤ w.heap.size := Nat.le_refl _
   have fa1 := blk_cell HX0.out
   have fb1 := blk_free HX0.out
   have fl1 := blk_lt HX0.out
   go_wp2_with fail
   clear fa1 fb1 fl1
   have HG1 := Lib.hid (gok_gl (rs := [X]) HG0.out (gl_set (gl_refl _ _) (p := ⟨X, 8, none⟩) (.inl si_) (.int .i64 ((oc : Int) + 1))) sx_)
   have hg1 : GL [X] w (w.setCell ⟨X, 8, none⟩ (.int .i64 ((oc : Int) + 1))) := gl_set hg0 (by first | (left; simp; done) | (right; simp; omega)) _
   have HX1 : Hid (SesAt (w.setCell ⟨X, 8, none⟩ (.int .i64 ((oc : Int) + 1))) X own drawn peer dials opn closed key okey ((oc : Int) + 1) ikey ic nx) := (blk_set HX0.out 8 (.int .i64 ((oc : Int) + 1)))
   have HZ1 : Hid ((w.setCell ⟨X, 8, none⟩ (.int .i64 ((oc : Int) + 1))).heap.size = w.heap.size) := by show _ = _; simp [World.setCell]
   generalize (w.setCell ⟨X, 8, none⟩ (.int .i64 ((oc : Int) + 1))) = w1 at *
   have hs1 := hg1.size
   have HX2 := Lib.hid (blk_alloc HX1.out (.cells #[.int .i64 0] 106))
   have ltXM : X < w.heap.size := by have := blk_lt HX1.out; have := HZ1.out; omega
   have neXM : X ≠ w.heap.size := by omega
   have neMX : w.heap.size ≠ X := by omega
   have HM2 : Hid ((w1.alloc (.cells #[.int .i64 0] 106)).heap[w.heap.size]? = some (.cells #[.int .i64 0] 106 (0, 0))) := by
    have h := blk_new w1 (.cells #[.int .i64 0] 106)
    rw [HZ1.out] at h
    exact h
   have HG2 := Lib.hid (gok_alloc HG1.out (.cells #[.int .i64 0] 106))
   have hg2 : GL [X] w (w1.alloc (.cells #[.int .i64 0] 106)) := (gl_alloc hg1 (.cells #[.int .i64 0] 106))
   generalize (w1.alloc (.cells #[.int .i64 0] 106)) = w2 at *
   have hs2 := hg2.size
   refine (mChild okey lNext hk de_ 0 w.heap.size hs _ HM2.out HG2.out).mono ?_
   rintro e w3 ⟨rfl, hm3, hl3⟩
   rw [E1.out] at hm3 ⊢
   dsimp only at hm3
   have HM3 := Lib.hid hm3
   clear hm3
   have HX3 := Lib.hid (blk_gl HX2.out hl3 sx_)
   have HG3 := Lib.hid (gok_gl HG2.out hl3 sx_)
   have hg3 : GL [X] w w3 := gl_step hl3 hg2 sx_
   have hs3 := hg3.size
   have fa2 := blk_cell HX3.out
   have fb2 := blk_free HX3.out
   have fl2 := blk_lt HX3.out
   go_wp2_with fail
   go_end0
   rw [H.out]
   exact ⟨rfl, blk_set (blk_set HX3.out 7 _) 8 _, gl_⟩
 · have H : Hid (onM okey oc = (okey, oc + 1)) := by show onM _ _ = _; simp only [onM]; rw [if_neg om_]
   have i1 : (oc : Int) + 1 ≠ 100 := by omega
   have b1 : ((oc : Int) + 1 == 100) = false := by simpa using i1
   have i2 : (oc : Int) ≤ 99 := by omega
   clear h
   have x0 := blk_cell HX0.out
   have x1 := blk_free HX0.out
   go_enter Tryz.func33, Tryz.ntmps33
   go_wp2_with fail
   go_end0
   rw [H.out]
   exact ⟨rfl, blk_set HX0.out 8 _, gl_seti si_ (gl_refl _ _) _⟩
theorem sOnIn (X : Nat) (own drawn peer : List UInt8) (dials opn closed : Bool) (key okey : List UInt8) (oc : Int) (ikey : List UInt8) (ic : Nat) (nx : Value) (hk : ikey.length ≤ 9000000000000000000) (hc : ic ≤ 99) (w : World) (hX : SesAt w X own drawn peer dials opn closed key okey oc ikey ic nx) (hXg : gN ≤ X) (hG : GOk w) :
  Calls Tryz.prog 33 #[.pointer (some ⟨X, 9, none⟩)] w fun e w' => e = .returned (.tuple #[]) ∧ SesAt w' X own drawn peer dials opn closed key okey oc (onM ikey ic).1 ((onM ikey ic).2 : Nat) nx ∧ GL [X] w w' := by
 have HG0 := Lib.hid hG
 have HX0 := Lib.hid hX
 have ltX := blk_lt hX
 have hs := hG.size
 clear hG hX
 by_cases h : ic = 99
 · have b1 : ((ic : Int) + 1 == 100) = true := beq_iff_eq.2 om_
   have i2 : (ic : Int) ≤ 99 := by omega
   obtain ⟨y, g, e1⟩ : ∃ y g, childM 0 ikey lNext = (y, g) := ⟨_, _, rfl⟩
   have H : Hid (onM ikey ic = (y, 0)) := by show onM _ _ = _; simp [onM, e1, h]
   have E1 := Lib.hid e1
   clear e1 h
   go_enter Tryz.func33, Tryz.ntmps33
   have hg0 : GL [X] w w := gl_refl _ _
   have hs0 : w.heap.size ≤ w.heap.size := Nat.le_refl _
   have fa1 := blk_cell HX0.out
   have fb1 := blk_free HX0.out
   have fl1 := blk_lt HX0.out
   go_wp2_with fail
   clear fa1 fb1 fl1
   have HG1 := Lib.hid (gok_gl (rs := [X]) HG0.out (gl_set (gl_refl _ _) (p := ⟨X, 10, none⟩) (.inl si_) (.int .i64 ((ic : Int) + 1))) sx_)
   have hg1 : GL [X] w (w.setCell ⟨X, 10, none⟩ (.int .i64 ((ic : Int) + 1))) := gl_set hg0 (by first | (left; simp; done) | (right; simp; omega)) _
   have HX1 : Hid (SesAt (w.setCell ⟨X, 10, none⟩ (.int .i64 ((ic : Int) + 1))) X own drawn peer dials opn closed key okey oc ikey ((ic : Int) + 1) nx) := (blk_set HX0.out 10 (.int .i64 ((ic : Int) + 1)))
   have HZ1 : Hid ((w.setCell ⟨X, 10, none⟩ (.int .i64 ((ic : Int) + 1))).heap.size = w.heap.size) := by show _ = _; simp [World.setCell]
   generalize (w.setCell ⟨X, 10, none⟩ (.int .i64 ((ic : Int) + 1))) = w1 at *
   have hs1 := hg1.size
   have HX2 := Lib.hid (blk_alloc HX1.out (.cells #[.int .i64 0] 106))
   have ltXM : X < w.heap.size := by have := blk_lt HX1.out; have := HZ1.out; omega
   have neXM : X ≠ w.heap.size := by omega
   have neMX : w.heap.size ≠ X := by omega
   have HM2 : Hid ((w1.alloc (.cells #[.int .i64 0] 106)).heap[w.heap.size]? = some (.cells #[.int .i64 0] 106 (0, 0))) := by
    have h := blk_new w1 (.cells #[.int .i64 0] 106)
    rw [HZ1.out] at h
    exact h
   have HG2 := Lib.hid (gok_alloc HG1.out (.cells #[.int .i64 0] 106))
   have hg2 : GL [X] w (w1.alloc (.cells #[.int .i64 0] 106)) := (gl_alloc hg1 (.cells #[.int .i64 0] 106))
   generalize (w1.alloc (.cells #[.int .i64 0] 106)) = w2 at *
   have hs2 := hg2.size
   refine (mChild ikey lNext hk de_ 0 w.heap.size hs _ HM2.out HG2.out).mono ?_
   rintro e w3 ⟨rfl, hm3, hl3⟩
   rw [E1.out] at hm3 ⊢
   dsimp only at hm3
   have HM3 := Lib.hid hm3
   clear hm3
   have HX3 := Lib.hid (blk_gl HX2.out hl3 sx_)
   have HG3 := Lib.hid (gok_gl HG2.out hl3 sx_)
   have hg3 : GL [X] w w3 := gl_step hl3 hg2 sx_
   have hs3 := hg3.size
   have fa2 := blk_cell HX3.out
   have fb2 := blk_free HX3.out
   have fl2 := blk_lt HX3.out
   go_wp2_with fail
   go_end0
   rw [H.out]
   exact ⟨rfl, blk_set (blk_set HX3.out 9 _) 10 _, gl_⟩
 · have H : Hid (onM ikey ic = (ikey, ic + 1)) := by show onM _ _ = _; simp only [onM]; rw [if_neg om_]
   have i1 : (ic : Int) + 1 ≠ 100 := by omega
   have b1 : ((ic : Int) + 1 == 100) = false := by simpa using i1
   have i2 : (ic : Int) ≤ 99 := by omega
   clear h
   have x0 := blk_cell HX0.out
   have x1 := blk_free HX0.out
   go_enter Tryz.func33, Tryz.ntmps33
   go_wp2_with fail
   go_end0
   rw [H.out]
   exact ⟨rfl, blk_set HX0.out 10 _, gl_seti si_ (gl_refl _ _) _⟩
end Go.Proofs.YtaaiaahkakkleaaGreatDoor
-- SesI
namespace Go.Proofs.YtaaiaahkakkleaaGreatDoor
open Go.RowKit
theorem gl_belowB {rs : List Nat} {w w1 w2 : World} {B : Nat} (hb : Below B w1 w2) (h : GL rs w w1) (hB : w.heap.size ≤ B) : GL rs w w2 :=
 ⟨hb.os.trans h.os, hb.tape.trans h.tape, hb.output.trans h.output, Nat.le_trans h.size hb.size, fun k hk hn => (hb.block k om_).trans (h.block k hk hn)⟩
theorem isB_drew {B b : Nat} {l : List UInt8} {w : World} (h : IsB B b l w) : IsB B b l w.drew := h
theorem gok_belowB {w w' : World} {B : Nat} (h : GOk w) (hb : Below B w w') (hB : gN ≤ B) : GOk w' := gok_keep h (fun k hk => hb.block k om_) hb.size
theorem isB_gl {B b X : Nat} {l : List UInt8} {w w' : World} (h : IsB B b l w) (hg : GL [X] w w') (hX : X < B) : IsB B b l w' := by
 have hgr : w.grownBy w' (some X) := ⟨hg.os, hg.tape, hg.output, hg.size, fun k hk hr => hg.block k hk (by simp only [List.mem_singleton]; rintro rfl; exact hr rfl)⟩
 rcases h with ⟨hB, v, h1, h2, h3⟩ | ⟨hB, v, h1, h2, h3⟩
 · refine .inl ⟨hB, v, blk_gl h1 hg so_, h2.kept hgr ?_, h3⟩
   cases hv : v.ownBlock with
   | none => exact .inl rfl
   | some g => exact .inr (by have := (h2.lt g hv).1; simp; omega)
 · refine .inr ⟨hB, v, blk_gl h1 hg so_, h2.kept hgr ?_, h3⟩
   cases hv : v.ownBlock with
   | none => exact .inl rfl
   | some g => exact .inr (by have := (h2.lt g hv).1; simp; omega)
def FramePost (X : Nat) (own drawn peer : List UInt8) (dials opn closed : Bool) (key okey : List UInt8) (oc : Int) (ikey : List UInt8) (ic : Nat) (w : World) (r : Option (List UInt8)) (e : Ending) (w' : World) : Prop :=
 GL [X] w w' ∧ match r with
 | none => e = .returned (.tuple #[.agg #[.string (bs []), .string (bs []), .bool false], .bool false]) ∧ SesAt w' X own drawn peer dials opn closed key okey oc ikey ic (.func (.func 96) #[.pointer (some ⟨X, 0, none⟩)] #[])
 | some x => e = .returned (.tuple #[.agg #[.string (bs []), .string (bs x), .bool true], .bool true]) ∧ SesAt w' X own drawn peer dials opn closed key okey oc (onM ikey ic).1 ((onM ikey ic).2 : Nat) (.func (.func 96) #[.pointer (some ⟨X, 0, none⟩)] #[])
def FrLoop (tl : List (List UInt8)) (B : Nat) (wB : World) (iv : Value) (wr : World) : Prop :=
 ∃ (k : Nat) (acc : List UInt8), k ≤ tl.length ∧ iv = .int .i64 k ∧ Hid (TProg tl k acc) ∧ acc.length ≤ 16384 * k ∧ Hid (IsB B B acc wr) ∧ Below B wB wr
theorem sFrame (t : List UInt8) (X : Nat) (own drawn peer : List UInt8) (dials opn closed : Bool) (key okey : List UInt8) (oc : Int) (ikey : List UInt8) (ic : Nat) (hic : ic ≤ 99) (hik : ikey.length ≤ 9000000000000000000) (ht : t.length ≤ 9000000000000000000) (w : World) (hX : SesAt w X own drawn peer dials opn closed key okey oc ikey ic (.func (.func 96) #[.pointer (some ⟨X, 0, none⟩)] #[])) (hXg : gN ≤ X) (hG : GOk w) :
  Calls Tryz.prog 96 #[.pointer (some ⟨X, 0, none⟩), .string (bs t)] w (FramePost X own drawn peer dials opn closed key okey oc ikey ic w (readM ikey ic t)) := by
 obtain ⟨u, bu, h0⟩ : ∃ u b, unboxT ikey t = (u, b) := ⟨_, _, rfl⟩
 have hul : u.length ≤ 9000000000000000000 := by have := unboxT_len ikey t; rw [h0] at this; simp at this; omega
 have H0 := Lib.hid h0
 have HG0 := Lib.hid hG
 have HX0 := Lib.hid hX
 have ltX := blk_lt hX
 have hs := hG.size
 clear h0 hG hX
 cases hr : rt u with
 | none =>
   have H := Lib.hid (readM_none (c := ic) H0.out hr)
   have HR := Lib.hid hr
   clear hr
   go_enter Tryz.func96, Tryz.ntmps96
   have hg0 : GL [X] w w := gl_refl _ _
   have hs0 : w.heap.size ≤ w.heap.size := Nat.le_refl _
   have fa1 := blk_cell HX0.out
   have fb1 := blk_free HX0.out
   have fl1 := blk_lt HX0.out
   go_wp2_with fail
   clear fa1 fb1 fl1
   have HXr := Lib.hid (blk_alloc HX0.out (.cells #[.string (bs []), .string (bs []), .bool false] 53))
   have ltXR : X < w.heap.size := by have := blk_lt HX0.out; omega
   have neXR : X ≠ w.heap.size := by omega
   have neRX : w.heap.size ≠ X := by omega
   have HRr : Hid ((w.alloc (.cells #[.string (bs []), .string (bs []), .bool false] 53)).heap[w.heap.size]? = some (.cells #[.string (bs []), .string (bs []), .bool false] 53 (0, 0))) := by
    have h := blk_new w (.cells #[.string (bs []), .string (bs []), .bool false] 53)
    exact h
   have HGr := Lib.hid (gok_alloc HG0.out (.cells #[.string (bs []), .string (bs []), .bool false] 53))
   have hgr : GL [X] w (w.alloc (.cells #[.string (bs []), .string (bs []), .bool false] 53)) := (gl_alloc hg0 (.cells #[.string (bs []), .string (bs []), .bool false] 53))
   generalize (w.alloc (.cells #[.string (bs []), .string (bs []), .bool false] 53)) = wr at *
   have hsr := hgr.size
   refine (tUnbox ikey t ht _ HGr.out).mono ?_
   rintro e w1 ⟨rfl, hb1⟩
   rw [H0.out]
   have HX1 := Lib.hid (blk_below HXr.out hb1 (blk_lt HXr.out))
   have HR1 := Lib.hid (blk_below HRr.out hb1 (blk_lt HRr.out))
   have HG1 := Lib.hid (gok_below HGr.out hb1)
   have hg1 : GL [X] w w1 := gl_below hb1 hgr
   have hs1 := hg1.size
   go_wp2_with fail
   refine (tOpen u hul _ HG1.out).mono ?_
   rintro e w2 hp
   rw [HR.out] at hp
   obtain ⟨rfl, hb2⟩ := hp
   have HX2 := Lib.hid (blk_alloc (blk_below HX1.out hb2 (blk_lt HX1.out)) (.cells #[.int .u8 0, .int .i64 0, .string (bs []), .slice none 0 0] 98))
   have HR2 := Lib.hid (blk_alloc (blk_below HR1.out hb2 (blk_lt HR1.out)) (.cells #[.int .u8 0, .int .i64 0, .string (bs []), .slice none 0 0] 98))
   have hg2 := gl_alloc (gl_below hb2 hg1) (.cells #[.int .u8 0, .int .i64 0, .string (bs []), .slice none 0 0] 98)
   have z0 := blk_cell HR2.out
   have z1 := blk_free HR2.out
   have z2 := blk_lt HR2.out
   go_wp2_with fail
   refine bodyPost_ret (v := .tuple #[.agg #[.string (bs []), .string (bs []), .bool false], .bool false]) (by simp [results, Tryz.results96, go_sem, z0, z1, z2]) rfl ?_
   rw [H.out]
   exact ⟨(gl_setn si_ (gl_setn si_ (gl_setn si_ hg2 _) _) _), rfl, (blk_ne (blk_ne (blk_ne HX2.out (p := ⟨w.heap.size, 0, none⟩) so_ _) (p := ⟨w.heap.size, 1, none⟩) so_ _) (p := ⟨w.heap.size, 2, none⟩) so_ _)⟩
 | some s =>
   by_cases hc : s.op.toNat ≠ 84 ∨ s.kids = []
   · have H := Lib.hid (readM_op (c := ic) H0.out hr hc)
     have HR := Lib.hid hr
     have bb : (((s.op.toNat : Nat) : Int) != 84) = true ∨ ((((s.op.toNat : Nat) : Int) != 84) = false ∧ Hid (s.kids = [])) := by
      by_cases h : s.op.toNat = 84
      · right
        refine ⟨by simp [h], ?_⟩
        rcases hc with hc | hc
        · exact absurd h hc
        · exact hc
      · left
        simp; omega
     clear hr hc
     rcases bb with b1 | ⟨b1, HKS⟩
     · go_enter Tryz.func96, Tryz.ntmps96
       have hg0 : GL [X] w w := gl_refl _ _
       have hs0 : w.heap.size ≤ w.heap.size := Nat.le_refl _
       have fa1 := blk_cell HX0.out
       have fb1 := blk_free HX0.out
       have fl1 := blk_lt HX0.out
       go_wp2_with fail
       clear fa1 fb1 fl1
       have HXr := Lib.hid (blk_alloc HX0.out (.cells #[.string (bs []), .string (bs []), .bool false] 53))
       have ltXR : X < w.heap.size := by have := blk_lt HX0.out; omega
       have neXR : X ≠ w.heap.size := by omega
       have neRX : w.heap.size ≠ X := by omega
       have HRr : Hid ((w.alloc (.cells #[.string (bs []), .string (bs []), .bool false] 53)).heap[w.heap.size]? = some (.cells #[.string (bs []), .string (bs []), .bool false] 53 (0, 0))) := by
        have h := blk_new w (.cells #[.string (bs []), .string (bs []), .bool false] 53)
        exact h
       have HGr := Lib.hid (gok_alloc HG0.out (.cells #[.string (bs []), .string (bs []), .bool false] 53))
       have hgr : GL [X] w (w.alloc (.cells #[.string (bs []), .string (bs []), .bool false] 53)) := (gl_alloc hg0 (.cells #[.string (bs []), .string (bs []), .bool false] 53))
       generalize (w.alloc (.cells #[.string (bs []), .string (bs []), .bool false] 53)) = wr at *
       have hsr := hgr.size
       refine (tUnbox ikey t ht _ HGr.out).mono ?_
       rintro e w1 ⟨rfl, hb1⟩
       rw [H0.out]
       have HX1 := Lib.hid (blk_below HXr.out hb1 (blk_lt HXr.out))
       have HR1 := Lib.hid (blk_below HRr.out hb1 (blk_lt HRr.out))
       have HG1 := Lib.hid (gok_below HGr.out hb1)
       have hg1 : GL [X] w w1 := gl_below hb1 hgr
       have hs1 := hg1.size
       go_wp2_with fail
       refine (tOpen u hul _ HG1.out).mono ?_
       rintro e w2 hp
       rw [HR.out] at hp
       obtain ⟨ad, kn, kc, rfl, hown, hb2⟩ := hp
       clear hown
       have HX2 := Lib.hid (blk_alloc (blk_below HX1.out hb2 (blk_lt HX1.out)) (.cells #[.int .u8 s.op.toNat, .int .i64 (numOf s), .string (bs s.text), .slice ad kn kc] 98))
       have HR2 := Lib.hid (blk_alloc (blk_below HR1.out hb2 (blk_lt HR1.out)) (.cells #[.int .u8 s.op.toNat, .int .i64 (numOf s), .string (bs s.text), .slice ad kn kc] 98))
       have hg2 := gl_alloc (gl_below hb2 hg1) (.cells #[.int .u8 s.op.toNat, .int .i64 (numOf s), .string (bs s.text), .slice ad kn kc] 98)
       have z0 := blk_cell HR2.out
       have z1 := blk_free HR2.out
       have z2 := blk_lt HR2.out
       go_wp2_with fail
       refine bodyPost_ret (v := .tuple #[.agg #[.string (bs []), .string (bs []), .bool false], .bool false]) (by simp [results, Tryz.results96, go_sem, z0, z1, z2]) rfl ?_
       rw [H.out]
       exact ⟨(gl_setn si_ (gl_setn si_ (gl_setn si_ hg2 _) _) _), rfl, (blk_ne (blk_ne (blk_ne HX2.out (p := ⟨w.heap.size, 0, none⟩) so_ _) (p := ⟨w.heap.size, 1, none⟩) so_ _) (p := ⟨w.heap.size, 2, none⟩) so_ _)⟩
     · go_enter Tryz.func96, Tryz.ntmps96
       have hg0 : GL [X] w w := gl_refl _ _
       have hs0 : w.heap.size ≤ w.heap.size := Nat.le_refl _
       have fa1 := blk_cell HX0.out
       have fb1 := blk_free HX0.out
       have fl1 := blk_lt HX0.out
       go_wp2_with fail
       clear fa1 fb1 fl1
       have HXr := Lib.hid (blk_alloc HX0.out (.cells #[.string (bs []), .string (bs []), .bool false] 53))
       have ltXR : X < w.heap.size := by have := blk_lt HX0.out; omega
       have neXR : X ≠ w.heap.size := by omega
       have neRX : w.heap.size ≠ X := by omega
       have HRr : Hid ((w.alloc (.cells #[.string (bs []), .string (bs []), .bool false] 53)).heap[w.heap.size]? = some (.cells #[.string (bs []), .string (bs []), .bool false] 53 (0, 0))) := by
        have h := blk_new w (.cells #[.string (bs []), .string (bs []), .bool false] 53)
        exact h
       have HGr := Lib.hid (gok_alloc HG0.out (.cells #[.string (bs []), .string (bs []), .bool false] 53))
       have hgr : GL [X] w (w.alloc (.cells #[.string (bs []), .string (bs []), .bool false] 53)) := (gl_alloc hg0 (.cells #[.string (bs []), .string (bs []), .bool false] 53))
       generalize (w.alloc (.cells #[.string (bs []), .string (bs []), .bool false] 53)) = wr at *
       have hsr := hgr.size
       refine (tUnbox ikey t ht _ HGr.out).mono ?_
       rintro e w1 ⟨rfl, hb1⟩
       rw [H0.out]
       have HX1 := Lib.hid (blk_below HXr.out hb1 (blk_lt HXr.out))
       have HR1 := Lib.hid (blk_below HRr.out hb1 (blk_lt HRr.out))
       have HG1 := Lib.hid (gok_below HGr.out hb1)
       have hg1 : GL [X] w w1 := gl_below hb1 hgr
       have hs1 := hg1.size
       go_wp2_with fail
       refine (tOpen u hul _ HG1.out).mono ?_
       rintro e w2 hp
       rw [HR.out] at hp
       obtain ⟨ad, kn, kc, rfl, hown, hb2⟩ := hp
       rw [HKS.out] at hown
       have hkn : kn = 0 := own_len hown
       subst hkn
       clear hown
       have HX2 := Lib.hid (blk_alloc (blk_below HX1.out hb2 (blk_lt HX1.out)) (.cells #[.int .u8 s.op.toNat, .int .i64 (numOf s), .string (bs s.text), .slice ad 0 kc] 98))
       have HR2 := Lib.hid (blk_alloc (blk_below HR1.out hb2 (blk_lt HR1.out)) (.cells #[.int .u8 s.op.toNat, .int .i64 (numOf s), .string (bs s.text), .slice ad 0 kc] 98))
       have hg2 := gl_alloc (gl_below hb2 hg1) (.cells #[.int .u8 s.op.toNat, .int .i64 (numOf s), .string (bs s.text), .slice ad 0 kc] 98)
       have z0 := blk_cell HR2.out
       have z1 := blk_free HR2.out
       have z2 := blk_lt HR2.out
       go_wp2_with fail
       refine bodyPost_ret (v := .tuple #[.agg #[.string (bs []), .string (bs []), .bool false], .bool false]) (by simp [results, Tryz.results96, go_sem, z0, z1, z2]) rfl ?_
       rw [H.out]
       exact ⟨(gl_setn si_ (gl_setn si_ (gl_setn si_ hg2 _) _) _), rfl, (blk_ne (blk_ne (blk_ne HX2.out (p := ⟨w.heap.size, 0, none⟩) so_ _) (p := ⟨w.heap.size, 1, none⟩) so_ _) (p := ⟨w.heap.size, 2, none⟩) so_ _)⟩
   · have ho : s.op.toNat = 84 := by
      by_cases h : s.op.toNat = 84
      · exact h
      · exact absurd (.inl h) hc
     obtain ⟨k0, tl, hk⟩ : ∃ k0 tl, s.kids = k0 :: tl := by
      cases hk : s.kids with
      | nil => exact absurd (.inr hk) hc
      | cons a b => exact ⟨a, b, rfl⟩
     have hk32 : tl.length ≤ 31 := by have := rt_many_kids hr; rw [hk] at this; simp at this; omega
     have hkl : Hid (∀ x ∈ tl, x.length ≤ 16384) := fun x hx => (right_len (rt_kids hr x (by rw [hk]; simp [hx])).1).2
     have H := Lib.hid (readM_kids (c := ic) H0.out hr ho hk)
     have HR := Lib.hid hr
     have HKS := Lib.hid hk
     have b1 : (((s.op.toNat : Nat) : Int) != 84) = false := by simp [ho]
     clear hr hc ho hk
     go_enter Tryz.func96, Tryz.ntmps96
     have hg0 : GL [X] w w := gl_refl _ _
     have hs0 : w.heap.size ≤ w.heap.size := Nat.le_refl _
     have fa1 := blk_cell HX0.out
     have fb1 := blk_free HX0.out
     have fl1 := blk_lt HX0.out
     go_wp2_with fail
     clear fa1 fb1 fl1
     have HXr := Lib.hid (blk_alloc HX0.out (.cells #[.string (bs []), .string (bs []), .bool false] 53))
     have ltXR : X < w.heap.size := by have := blk_lt HX0.out; omega
     have neXR : X ≠ w.heap.size := by omega
     have neRX : w.heap.size ≠ X := by omega
     have HRr : Hid ((w.alloc (.cells #[.string (bs []), .string (bs []), .bool false] 53)).heap[w.heap.size]? = some (.cells #[.string (bs []), .string (bs []), .bool false] 53 (0, 0))) := by
      have h := blk_new w (.cells #[.string (bs []), .string (bs []), .bool false] 53)
      exact h
     have HGr := Lib.hid (gok_alloc HG0.out (.cells #[.string (bs []), .string (bs []), .bool false] 53))
     have hgr : GL [X] w (w.alloc (.cells #[.string (bs []), .string (bs []), .bool false] 53)) := (gl_alloc hg0 (.cells #[.string (bs []), .string (bs []), .bool false] 53))
     generalize (w.alloc (.cells #[.string (bs []), .string (bs []), .bool false] 53)) = wr at *
     have hsr := hgr.size
     refine (tUnbox ikey t ht _ HGr.out).mono ?_
     rintro e w1 ⟨rfl, hb1⟩
     rw [H0.out]
     have HX1 := Lib.hid (blk_below HXr.out hb1 (blk_lt HXr.out))
     have HR1 := Lib.hid (blk_below HRr.out hb1 (blk_lt HRr.out))
     have HG1 := Lib.hid (gok_below HGr.out hb1)
     have hg1 : GL [X] w w1 := gl_below hb1 hgr
     have hs1 := hg1.size
     go_wp2_with fail
     refine (tOpen u hul _ HG1.out).mono ?_
     rintro e w2 hp
     rw [HR.out] at hp
     obtain ⟨ad, kn, kc, rfl, hown, hb2⟩ := hp
     rw [HKS.out] at hown
     obtain ⟨g, cap, hv, hgb, hgw, hcap, hcap2, hcell⟩ := own_cells hown si_
     injection hv with hv1 hv2 hv3
     subst hv1 hv2 hv3
     have HX2 := Lib.hid (blk_below HX1.out hb2 (blk_lt HX1.out))
     have HR2 := Lib.hid (blk_below HR1.out hb2 (blk_lt HR1.out))
     have HG2 := Lib.hid (gok_below HG1.out hb2)
     have hg2 : GL [X] w w2 := gl_below hb2 hg1
     have HC2 : Hid (∀ (j : Nat) (a : List UInt8), tl[j]? = some a → w2.cell? ⟨g, 1 + j, none⟩ = some (.string (bs a))) := fun j a ha => hcell (1 + j) _ (by rw [List.map_cons, Nat.add_comm, List.getElem?_cons_succ, List.getElem?_map, ha]; rfl)
     clear hcell hown
     have hcapn : tl.length + 1 ≤ kc := by simpa using hcap
     have hs1 := hg2.size
     clear hcap hg0 hs0 hgr hsr hg1 HX1 HR1 HG1 HXr HRr HGr
     by_cases hkc : kc = 1
     · subst hkc
       obtain rfl : tl = [] := List.length_eq_zero_iff.1 om_
       go_wp2_with fail
       have HI := isB_new (w2.alloc (.cells #[.int .u8 s.op.toNat, .int .i64 (numOf s), .string (bs s.text), .slice (some ⟨g, 0, none⟩) 1 1] 98))
       rw [show (w2.alloc (.cells #[.int .u8 s.op.toNat, .int .i64 (numOf s), .string (bs s.text), .slice (some ⟨g, 0, none⟩) 1 1] 98)).heap.size = w2.heap.size + 1 by simp] at HI
       have HI3 := Lib.hid HI
       clear HI
       have HC3 : Hid (∀ (j : Nat) (a : List UInt8), ([] : List (List UInt8))[j]? = some a → ((w2.alloc (.cells #[.int .u8 s.op.toNat, .int .i64 (numOf s), .string (bs s.text), .slice (some ⟨g, 0, none⟩) 1 1] 98)).alloc (.cells #[.pointer none, .slice none 0 0] 154)).cell? ⟨g, 1 + j, none⟩ = some (.string (bs a))) := fun j a ha => cell_alloc (cell_alloc (HC2.out j a ha) _) _
       have hgB : g < w2.heap.size + 1 := by omega
       have HX3 := Lib.hid (blk_alloc (blk_alloc HX2.out (.cells #[.int .u8 s.op.toNat, .int .i64 (numOf s), .string (bs s.text), .slice (some ⟨g, 0, none⟩) 1 1] 98)) (.cells #[.pointer none, .slice none 0 0] 154))
       have ltXP : X < w2.heap.size := by have := blk_lt HX2.out; omega
       have neXP : X ≠ w2.heap.size := by omega
       have nePX : w2.heap.size ≠ X := by omega
       have ltXB : X < w2.heap.size + 1 := by have := blk_lt HX2.out; omega
       have neXB : X ≠ w2.heap.size + 1 := by omega
       have neBX : w2.heap.size + 1 ≠ X := by omega
       have HR3 := Lib.hid (blk_alloc (blk_alloc HR2.out (.cells #[.int .u8 s.op.toNat, .int .i64 (numOf s), .string (bs s.text), .slice (some ⟨g, 0, none⟩) 1 1] 98)) (.cells #[.pointer none, .slice none 0 0] 154))
       have ltRP : w.heap.size < w2.heap.size := by have := blk_lt HR2.out; omega
       have neRP : w.heap.size ≠ w2.heap.size := by omega
       have nePR : w2.heap.size ≠ w.heap.size := by omega
       have ltRB : w.heap.size < w2.heap.size + 1 := by have := blk_lt HR2.out; omega
       have neRB : w.heap.size ≠ w2.heap.size + 1 := by omega
       have neBR : w2.heap.size + 1 ≠ w.heap.size := by omega
       have HP3 : Hid (((w2.alloc (.cells #[.int .u8 s.op.toNat, .int .i64 (numOf s), .string (bs s.text), .slice (some ⟨g, 0, none⟩) 1 1] 98)).alloc (.cells #[.pointer none, .slice none 0 0] 154)).heap[w2.heap.size]? = some (.cells #[.int .u8 s.op.toNat, .int .i64 (numOf s), .string (bs s.text), .slice (some ⟨g, 0, none⟩) 1 1] 98 (0, 0))) := by
        have h := blk_new w2 (.cells #[.int .u8 s.op.toNat, .int .i64 (numOf s), .string (bs s.text), .slice (some ⟨g, 0, none⟩) 1 1] 98)
        exact (blk_alloc h (.cells #[.pointer none, .slice none 0 0] 154))
       have HB3 : Hid (((w2.alloc (.cells #[.int .u8 s.op.toNat, .int .i64 (numOf s), .string (bs s.text), .slice (some ⟨g, 0, none⟩) 1 1] 98)).alloc (.cells #[.pointer none, .slice none 0 0] 154)).heap[w2.heap.size + 1]? = some (.cells #[.pointer none, .slice none 0 0] 154 (0, 0))) := by
        have h := blk_new (w2.alloc (.cells #[.int .u8 s.op.toNat, .int .i64 (numOf s), .string (bs s.text), .slice (some ⟨g, 0, none⟩) 1 1] 98)) (.cells #[.pointer none, .slice none 0 0] 154)
        rw [show (w2.alloc (.cells #[.int .u8 s.op.toNat, .int .i64 (numOf s), .string (bs s.text), .slice (some ⟨g, 0, none⟩) 1 1] 98)).heap.size = w2.heap.size + 1 by simp] at h
        exact h
       have HG3 := Lib.hid (gok_alloc (gok_alloc HG2.out (.cells #[.int .u8 s.op.toNat, .int .i64 (numOf s), .string (bs s.text), .slice (some ⟨g, 0, none⟩) 1 1] 98)) (.cells #[.pointer none, .slice none 0 0] 154))
       have hg3 : GL [X] w ((w2.alloc (.cells #[.int .u8 s.op.toNat, .int .i64 (numOf s), .string (bs s.text), .slice (some ⟨g, 0, none⟩) 1 1] 98)).alloc (.cells #[.pointer none, .slice none 0 0] 154)) := (gl_alloc (gl_alloc hg2 (.cells #[.int .u8 s.op.toNat, .int .i64 (numOf s), .string (bs s.text), .slice (some ⟨g, 0, none⟩) 1 1] 98)) (.cells #[.pointer none, .slice none 0 0] 154))
       have geP : w.heap.size ≤ w2.heap.size := by have := hg2.size; omega
       have gnP : gN ≤ w2.heap.size := by have := HG2.out.size; omega
       have geB : w.heap.size ≤ w2.heap.size + 1 := by have := hg2.size; omega
       have gnB : gN ≤ w2.heap.size + 1 := by have := HG2.out.size; omega
       have ltPB : w2.heap.size < w2.heap.size + 1 := by omega
       have nePB : w2.heap.size ≠ w2.heap.size + 1 := by omega
       have neBP : w2.heap.size + 1 ≠ w2.heap.size := by omega
       generalize ((w2.alloc (.cells #[.int .u8 s.op.toNat, .int .i64 (numOf s), .string (bs s.text), .slice (some ⟨g, 0, none⟩) 1 1] 98)).alloc (.cells #[.pointer none, .slice none 0 0] 154)) = w3 at *
       generalize w2.heap.size + 1 = B at *
       generalize w2.heap.size = P at *
       have hs3 := hg3.size
       have hB3 := blk_lt HB3.out
       clear HC2 hgb hgw HP3 HB3 ltXP neXP nePX ltRP neRP nePR geP gnP ltPB nePB neBP
       go_loopw [46] (fun iv wr => FrLoop ([] : List (List UInt8)) B w3 iv wr) (fun iv _ => ([] : List (List UInt8)).length - (intOf iv).toNat)
       case atStart => exact ⟨0, [], by omega, rfl, tprog_start ([] : List (List UInt8)), by simp, HI3.out, Below.refl _ _⟩
       case round =>
        obtain ⟨k, acc, hk, rfl, htp, hal, hib, hbel⟩ := hrel
        have HXr := Lib.hid (blk_below HX3.out hbel ltXB)
        have HRr := Lib.hid (blk_below HR3.out hbel ltRB)
        have HGr := Lib.hid (gok_belowB HG3.out hbel gnB)
        have hgr : GL [X] w wr := gl_belowB hbel hg3 geB
        have hBr : B < wr.heap.size := Nat.lt_of_lt_of_le hB3 hbel.size
        have hacc : acc.length ≤ 600000 := by omega
        obtain rfl : k = 0 := by simp at hk; omega
        have hne1 : ¬ (([] : List (List UInt8)).length : Int) < ([] : List (List UInt8)).length := by omega
        obtain ⟨mt, mg, hmk⟩ : ∃ x y, makeM ikey ic acc = (x, y) := ⟨_, _, rfl⟩
        have HMK := Lib.hid hmk
        have H3 : Hid (readM ikey ic t = if mg ≠ 0 ∨ mt ≠ t then none else some acc) := by show _ = _; rw [H.out, tprog_end htp.out]; simp only [hmk]
        have ikl := hik
        clear hmk
        have x0 := blk_cell HXr.out
        have x1 := blk_free HXr.out
        have x2 := blk_lt HXr.out
        have tokA : True := trivial
        have tokB : True := trivial
        go_wp2_with fail
        go_region_held3 (fun w' => w'.cell? ⟨X, 9, none⟩ = some (.string (bs ikey)) ∧ w'.cell? ⟨X, 10, none⟩ = some (.int .i64 ic))
         (refine ⟨?_, ?_⟩ <;> (first | exact blk_cell HX7.out 9 | exact blk_cell HX7.out 10 | exact blk_cell HX8.out 9 | exact blk_cell HX8.out 10 | go_keep))
         ((first
            | (go_at_call 108
               have _t := tokA
               go_must (refine (Tryz.Builder_String_any_k B B acc _ (by first | exact hib.out | exact isB_drew hib.out) (by first | omega | (simp; omega))).mono ?_)
               rintro e w7 ⟨rfl, hB7, hd7, _⟩
               rw [bs_mk]
               have hb7 : Below B wr w7 := ⟨hd7.os, hd7.tape, hd7.output, hd7.size, hd7.block⟩
               have HI7 : Hid (IsB B B acc w7) := hB7
               have HX7 := Lib.hid (blk_below HXr.out hb7 ltXB)
               have HR7 := Lib.hid (blk_below HRr.out hb7 ltRB)
               have HG7 := Lib.hid (gok_belowB HGr.out hb7 gnB)
               have hg7 : GL [X] w w7 := gl_belowB hb7 hgr geB
               clear hB7 hd7 tokA _t)
            | (go_at_call 32
               have _t := tokB
               have _p := HX7
               go_must (refine (sMake ikey ic acc ikl om_ om_ _ (by first | exact HG7.out | exact gok_drew HG7.out | exact gok_drewN HG7.out _)).mono ?_)
               rintro e w8 ⟨rfl, hd8⟩
               rw [HMK.out]
               have hb8 : Below w7.heap.size w7 w8 := ⟨hd8.os, hd8.tape, hd8.output, hd8.size, hd8.block⟩
               have HI8 := Lib.hid (isB_below HI7.out hb8)
               have HX8 := Lib.hid (blk_below HX7.out hb8 (blk_lt HX7.out))
               have HR8 := Lib.hid (blk_below HR7.out hb8 (blk_lt HR7.out))
               have HG8 := Lib.hid (gok_below HG7.out hb8)
               have hg8 : GL [X] w w8 := gl_below hb8 hg7
               clear hd8 tokB _t _p)))
        clear x0 x1 x2
        have z0 := blk_cell HR8.out
        have z1 := blk_free HR8.out
        have z2 := blk_lt HR8.out
        by_cases hmg : mg = 0
        · subst hmg
          by_cases hmt : mt = t
          · have H4 : Hid (readM ikey ic t = some acc) := by show _ = _; rw [H3.out, if_neg (by simp [hmt])]
            have b2 : (mt == t) = true := by simp [hmt]
            have b3 : (mt != t) = false := by simp [hmt]
            clear hmt z0 z1 z2
            have y0 := blk_cell HX8.out
            have y1 := blk_free HX8.out
            have y2 := blk_lt HX8.out
            go_wp2_with fail
            refine (sOnIn X own drawn peer dials opn closed key okey oc ikey ic _ ikl hic _ HX8.out hXg HG8.out).mono ?_
            rintro e w9 ⟨rfl, hx9, hl9⟩
            have HX9 := Lib.hid hx9
            have HI9 := Lib.hid (isB_gl HI8.out hl9 ltXB)
            have HR9 := Lib.hid (blk_gl HR8.out hl9 so_)
            have hg9 : GL [X] w w9 := gl_step hl9 hg8 si_
            have hB9 : B ≤ w9.heap.size := by have h1 := hl9.size; have h2 := hb8.size; have h3 := hb7.size; omega
            clear hx9 y0 y1 y2
            go_wp2_with fail
            refine (Tryz.Builder_String_any_k B B acc _ HI9.out hB9).mono ?_
            rintro e w10 ⟨rfl, _, hb10, _⟩
            rw [bs_mk]
            have HX10 : Hid (SesAt w10 X own drawn peer dials opn closed key okey oc (onM ikey ic).1 ((onM ikey ic).2 : Nat) (.func (.func 96) #[.pointer (some ⟨X, 0, none⟩)] #[])) := blk_below HX9.out hb10 ltXB
            have HR10 := Lib.hid (blk_below HR9.out hb10 ltRB)
            have hg10 : GL [X] w w10 := gl_belowB hb10 hg9 geB
            have z0 := blk_cell HR10.out
            have z1 := blk_free HR10.out
            have z2 := blk_lt HR10.out
            go_wp2_with fail
            refine bodyPost_ret (v := .tuple #[.agg #[.string (bs []), .string (bs acc), .bool true], .bool true]) (by simp [results, Tryz.results96, go_sem, z0, z1, z2]) rfl ?_
            rw [H4.out]
            exact ⟨(gl_setn si_ (gl_setn si_ (gl_setn si_ hg10 _) _) _), rfl, (blk_ne (blk_ne (blk_ne HX10.out (p := ⟨w.heap.size, 0, none⟩) so_ _) (p := ⟨w.heap.size, 1, none⟩) so_ _) (p := ⟨w.heap.size, 2, none⟩) so_ _)⟩
          · have H4 : Hid (readM ikey ic t = none) := by show _ = _; rw [H3.out, if_pos (.inr hmt)]
            have b2 : (mt == t) = false := by simpa using hmt
            have b3 : (mt != t) = true := by simpa using hmt
            clear hmt
            go_wp2_with fail
            refine bodyPost_ret (v := .tuple #[.agg #[.string (bs []), .string (bs []), .bool false], .bool false]) (by simp [results, Tryz.results96, go_sem, z0, z1, z2]) rfl ?_
            rw [H4.out]
            exact ⟨(gl_setn si_ (gl_setn si_ (gl_setn si_ hg8 _) _) _), rfl, (blk_ne (blk_ne (blk_ne HX8.out (p := ⟨w.heap.size, 0, none⟩) so_ _) (p := ⟨w.heap.size, 1, none⟩) so_ _) (p := ⟨w.heap.size, 2, none⟩) so_ _)⟩
        · have H4 : Hid (readM ikey ic t = none) := by show _ = _; rw [H3.out, if_pos (.inl hmg)]
          have b2 : (mg != 0) = true := by simpa using hmg
          clear hmg
          go_wp2_with fail
          refine bodyPost_ret (v := .tuple #[.agg #[.string (bs []), .string (bs []), .bool false], .bool false]) (by simp [results, Tryz.results96, go_sem, z0, z1, z2]) rfl ?_
          rw [H4.out]
          exact ⟨(gl_setn si_ (gl_setn si_ (gl_setn si_ hg8 _) _) _), rfl, (blk_ne (blk_ne (blk_ne HX8.out (p := ⟨w.heap.size, 0, none⟩) so_ _) (p := ⟨w.heap.size, 1, none⟩) so_ _) (p := ⟨w.heap.size, 2, none⟩) so_ _)⟩
     · go_wp2_with fail
       have HI := isB_new (w2.alloc (.cells #[.int .u8 s.op.toNat, .int .i64 (numOf s), .string (bs s.text), .slice (some ⟨g, 0, none⟩) (tl.length + 1) kc] 98))
       rw [show (w2.alloc (.cells #[.int .u8 s.op.toNat, .int .i64 (numOf s), .string (bs s.text), .slice (some ⟨g, 0, none⟩) (tl.length + 1) kc] 98)).heap.size = w2.heap.size + 1 by simp] at HI
       have HI3 := Lib.hid HI
       clear HI
       have HC3 : Hid (∀ (j : Nat) (a : List UInt8), tl[j]? = some a → ((w2.alloc (.cells #[.int .u8 s.op.toNat, .int .i64 (numOf s), .string (bs s.text), .slice (some ⟨g, 0, none⟩) (tl.length + 1) kc] 98)).alloc (.cells #[.pointer none, .slice none 0 0] 154)).cell? ⟨g, 1 + j, none⟩ = some (.string (bs a))) := fun j a ha => cell_alloc (cell_alloc (HC2.out j a ha) _) _
       have hgB : g < w2.heap.size + 1 := by omega
       have HX3 := Lib.hid (blk_alloc (blk_alloc HX2.out (.cells #[.int .u8 s.op.toNat, .int .i64 (numOf s), .string (bs s.text), .slice (some ⟨g, 0, none⟩) (tl.length + 1) kc] 98)) (.cells #[.pointer none, .slice none 0 0] 154))
       have ltXP : X < w2.heap.size := by have := blk_lt HX2.out; omega
       have neXP : X ≠ w2.heap.size := by omega
       have nePX : w2.heap.size ≠ X := by omega
       have ltXB : X < w2.heap.size + 1 := by have := blk_lt HX2.out; omega
       have neXB : X ≠ w2.heap.size + 1 := by omega
       have neBX : w2.heap.size + 1 ≠ X := by omega
       have HR3 := Lib.hid (blk_alloc (blk_alloc HR2.out (.cells #[.int .u8 s.op.toNat, .int .i64 (numOf s), .string (bs s.text), .slice (some ⟨g, 0, none⟩) (tl.length + 1) kc] 98)) (.cells #[.pointer none, .slice none 0 0] 154))
       have ltRP : w.heap.size < w2.heap.size := by have := blk_lt HR2.out; omega
       have neRP : w.heap.size ≠ w2.heap.size := by omega
       have nePR : w2.heap.size ≠ w.heap.size := by omega
       have ltRB : w.heap.size < w2.heap.size + 1 := by have := blk_lt HR2.out; omega
       have neRB : w.heap.size ≠ w2.heap.size + 1 := by omega
       have neBR : w2.heap.size + 1 ≠ w.heap.size := by omega
       have HP3 : Hid (((w2.alloc (.cells #[.int .u8 s.op.toNat, .int .i64 (numOf s), .string (bs s.text), .slice (some ⟨g, 0, none⟩) (tl.length + 1) kc] 98)).alloc (.cells #[.pointer none, .slice none 0 0] 154)).heap[w2.heap.size]? = some (.cells #[.int .u8 s.op.toNat, .int .i64 (numOf s), .string (bs s.text), .slice (some ⟨g, 0, none⟩) (tl.length + 1) kc] 98 (0, 0))) := by
        have h := blk_new w2 (.cells #[.int .u8 s.op.toNat, .int .i64 (numOf s), .string (bs s.text), .slice (some ⟨g, 0, none⟩) (tl.length + 1) kc] 98)
        exact (blk_alloc h (.cells #[.pointer none, .slice none 0 0] 154))
       have HB3 : Hid (((w2.alloc (.cells #[.int .u8 s.op.toNat, .int .i64 (numOf s), .string (bs s.text), .slice (some ⟨g, 0, none⟩) (tl.length + 1) kc] 98)).alloc (.cells #[.pointer none, .slice none 0 0] 154)).heap[w2.heap.size + 1]? = some (.cells #[.pointer none, .slice none 0 0] 154 (0, 0))) := by
        have h := blk_new (w2.alloc (.cells #[.int .u8 s.op.toNat, .int .i64 (numOf s), .string (bs s.text), .slice (some ⟨g, 0, none⟩) (tl.length + 1) kc] 98)) (.cells #[.pointer none, .slice none 0 0] 154)
        rw [show (w2.alloc (.cells #[.int .u8 s.op.toNat, .int .i64 (numOf s), .string (bs s.text), .slice (some ⟨g, 0, none⟩) (tl.length + 1) kc] 98)).heap.size = w2.heap.size + 1 by simp] at h
        exact h
       have HG3 := Lib.hid (gok_alloc (gok_alloc HG2.out (.cells #[.int .u8 s.op.toNat, .int .i64 (numOf s), .string (bs s.text), .slice (some ⟨g, 0, none⟩) (tl.length + 1) kc] 98)) (.cells #[.pointer none, .slice none 0 0] 154))
       have hg3 : GL [X] w ((w2.alloc (.cells #[.int .u8 s.op.toNat, .int .i64 (numOf s), .string (bs s.text), .slice (some ⟨g, 0, none⟩) (tl.length + 1) kc] 98)).alloc (.cells #[.pointer none, .slice none 0 0] 154)) := (gl_alloc (gl_alloc hg2 (.cells #[.int .u8 s.op.toNat, .int .i64 (numOf s), .string (bs s.text), .slice (some ⟨g, 0, none⟩) (tl.length + 1) kc] 98)) (.cells #[.pointer none, .slice none 0 0] 154))
       have geP : w.heap.size ≤ w2.heap.size := by have := hg2.size; omega
       have gnP : gN ≤ w2.heap.size := by have := HG2.out.size; omega
       have geB : w.heap.size ≤ w2.heap.size + 1 := by have := hg2.size; omega
       have gnB : gN ≤ w2.heap.size + 1 := by have := HG2.out.size; omega
       have ltPB : w2.heap.size < w2.heap.size + 1 := by omega
       have nePB : w2.heap.size ≠ w2.heap.size + 1 := by omega
       have neBP : w2.heap.size + 1 ≠ w2.heap.size := by omega
       generalize ((w2.alloc (.cells #[.int .u8 s.op.toNat, .int .i64 (numOf s), .string (bs s.text), .slice (some ⟨g, 0, none⟩) (tl.length + 1) kc] 98)).alloc (.cells #[.pointer none, .slice none 0 0] 154)) = w3 at *
       generalize w2.heap.size + 1 = B at *
       generalize w2.heap.size = P at *
       have hs3 := hg3.size
       have hB3 := blk_lt HB3.out
       clear HC2 hgb hgw HP3 HB3 ltXP neXP nePX ltRP neRP nePR geP gnP ltPB nePB neBP
       go_loopw [46] (fun iv wr => FrLoop tl B w3 iv wr) (fun iv _ => tl.length - (intOf iv).toNat)
       case atStart => exact ⟨0, [], by omega, rfl, tprog_start tl, by simp, HI3.out, Below.refl _ _⟩
       case round =>
        obtain ⟨k, acc, hk, rfl, htp, hal, hib, hbel⟩ := hrel
        have HXr := Lib.hid (blk_below HX3.out hbel ltXB)
        have HRr := Lib.hid (blk_below HR3.out hbel ltRB)
        have HGr := Lib.hid (gok_belowB HG3.out hbel gnB)
        have hgr : GL [X] w wr := gl_belowB hbel hg3 geB
        have hBr : B < wr.heap.size := Nat.lt_of_lt_of_le hB3 hbel.size
        have hacc : acc.length ≤ 600000 := by omega
        by_cases hlt : k < tl.length
        · obtain ⟨a, ha⟩ : ∃ a, tl[k]? = some a := ⟨tl[k], by simp [hlt]⟩
          have halen := hkl.out a (List.mem_of_getElem? ha)
          have c0 : wr.cell? ⟨g, 1 + k, none⟩ = some (.string (bs a)) := (hbel.cell (p := ⟨g, 1 + k, none⟩) hgB).trans (HC3.out k a ha)
          have i1 : (k : Int) < tl.length := by omega
          have HA := Lib.hid ha
          clear ha
          cases hra : rt a with
          | none =>
            have HRA := Lib.hid hra
            have H2 : Hid (readM ikey ic t = none) := by show _ = _; rw [H.out, tprog_bad htp.out HA.out (by intro s h; rw [hra] at h; simp at h)]
            clear hra
            go_wp2_with fail
            refine (tOpen a om_ _ HGr.out).mono ?_
            rintro e w4 hp
            rw [HRA.out] at hp
            obtain ⟨rfl, hb4⟩ := hp
            have HX4 := Lib.hid (blk_alloc (blk_below HXr.out hb4 (blk_lt HXr.out)) (.cells #[.int .u8 0, .int .i64 0, .string (bs []), .slice none 0 0] 98))
            have HR4 := Lib.hid (blk_alloc (blk_below HRr.out hb4 (blk_lt HRr.out)) (.cells #[.int .u8 0, .int .i64 0, .string (bs []), .slice none 0 0] 98))
            have hg4 := gl_alloc (gl_below hb4 hgr) (.cells #[.int .u8 0, .int .i64 0, .string (bs []), .slice none 0 0] 98)
            have z0 := blk_cell HR4.out
            have z1 := blk_free HR4.out
            have z2 := blk_lt HR4.out
            go_wp2_with fail
            refine bodyPost_ret (v := .tuple #[.agg #[.string (bs []), .string (bs []), .bool false], .bool false]) (by simp [results, Tryz.results96, go_sem, z0, z1, z2]) rfl ?_
            rw [H2.out]
            exact ⟨(gl_setn si_ (gl_setn si_ (gl_setn si_ hg4 _) _) _), rfl, (blk_ne (blk_ne (blk_ne HX4.out (p := ⟨w.heap.size, 0, none⟩) so_ _) (p := ⟨w.heap.size, 1, none⟩) so_ _) (p := ⟨w.heap.size, 2, none⟩) so_ _)⟩
          | some s2 =>
            have HRA := Lib.hid hra
            have htx := rt_text_len hra
            by_cases ho2 : s2.op.toNat = 116
            · have b2 : (((s2.op.toNat : Nat) : Int) != 116) = false := by simp [ho2]
              have HN := Lib.hid (tprog_next htp.out HA.out hra ho2)
              clear hra ho2
              go_wp2_with fail
              refine (tOpen a om_ _ HGr.out).mono ?_
              rintro e w4 hp
              rw [HRA.out] at hp
              obtain ⟨ad4, kn4, kc4, rfl, hown4, hb4⟩ := hp
              clear hown4
              have HI4 : Hid (IsB B B acc (w4.alloc (.cells #[.int .u8 s2.op.toNat, .int .i64 (numOf s2), .string (bs s2.text), .slice ad4 kn4 kc4] 98))) := isB_below (isB_below hib.out hb4) ((Below.refl _ _).alloc (Nat.le_refl _) _)
              have hsz4 : B ≤ (w4.alloc (.cells #[.int .u8 s2.op.toNat, .int .i64 (numOf s2), .string (bs s2.text), .slice ad4 kn4 kc4] 98)).heap.size := by have := hb4.size; simp; omega
              have hbB4 : Below B w3 (w4.alloc (.cells #[.int .u8 s2.op.toNat, .int .i64 (numOf s2), .string (bs s2.text), .slice ad4 kn4 kc4] 98)) := by
               have h1 : Below B w3 w4 := hbel.trans (hb4.mono om_)
               exact h1.alloc (by have := hb4.size; omega) _
              go_wp2_with fail
              refine (tWriteString B B acc s2.text _ HI4.out om_ hsz4).mono ?_
              rintro e w5 ⟨rfl, hB5, hb5⟩
              go_wp2_with fail
              go_roundw
              case rel =>
               (repeat apply Exists.intro)
               refine ⟨?_, rfl⟩
               exact ⟨k + 1, acc ++ s2.text, by omega, by go_num, HN.out, by simp; omega, hB5, hbB4.trans hb5⟩
              case measure => (show tl.length - ((k : Int) + 1).toNat < tl.length - (k : Int).toNat); omega
            · have b2 : (((s2.op.toNat : Nat) : Int) != 116) = true := by simp; omega
              have H2 : Hid (readM ikey ic t = none) := by show _ = _; rw [H.out, tprog_bad htp.out HA.out (by intro s h; rw [hra] at h; obtain rfl := Option.some.inj h; exact ho2)]
              clear hra ho2
              go_wp2_with fail
              refine (tOpen a om_ _ HGr.out).mono ?_
              rintro e w4 hp
              rw [HRA.out] at hp
              obtain ⟨ad4, kn4, kc4, rfl, hown4, hb4⟩ := hp
              clear hown4
              have HX4 := Lib.hid (blk_alloc (blk_below HXr.out hb4 (blk_lt HXr.out)) (.cells #[.int .u8 s2.op.toNat, .int .i64 (numOf s2), .string (bs s2.text), .slice ad4 kn4 kc4] 98))
              have HR4 := Lib.hid (blk_alloc (blk_below HRr.out hb4 (blk_lt HRr.out)) (.cells #[.int .u8 s2.op.toNat, .int .i64 (numOf s2), .string (bs s2.text), .slice ad4 kn4 kc4] 98))
              have hg4 := gl_alloc (gl_below hb4 hgr) (.cells #[.int .u8 s2.op.toNat, .int .i64 (numOf s2), .string (bs s2.text), .slice ad4 kn4 kc4] 98)
              have z0 := blk_cell HR4.out
              have z1 := blk_free HR4.out
              have z2 := blk_lt HR4.out
              go_wp2_with fail
              refine bodyPost_ret (v := .tuple #[.agg #[.string (bs []), .string (bs []), .bool false], .bool false]) (by simp [results, Tryz.results96, go_sem, z0, z1, z2]) rfl ?_
              rw [H2.out]
              exact ⟨(gl_setn si_ (gl_setn si_ (gl_setn si_ hg4 _) _) _), rfl, (blk_ne (blk_ne (blk_ne HX4.out (p := ⟨w.heap.size, 0, none⟩) so_ _) (p := ⟨w.heap.size, 1, none⟩) so_ _) (p := ⟨w.heap.size, 2, none⟩) so_ _)⟩
        · obtain rfl : k = tl.length := by omega
          have hne1 : ¬ (tl.length : Int) < tl.length := by omega
          obtain ⟨mt, mg, hmk⟩ : ∃ x y, makeM ikey ic acc = (x, y) := ⟨_, _, rfl⟩
          have HMK := Lib.hid hmk
          have H3 : Hid (readM ikey ic t = if mg ≠ 0 ∨ mt ≠ t then none else some acc) := by show _ = _; rw [H.out, tprog_end htp.out]; simp only [hmk]
          have ikl := hik
          clear hmk
          have x0 := blk_cell HXr.out
          have x1 := blk_free HXr.out
          have x2 := blk_lt HXr.out
          have tokA : True := trivial
          have tokB : True := trivial
          go_wp2_with fail
          go_region_held3 (fun w' => w'.cell? ⟨X, 9, none⟩ = some (.string (bs ikey)) ∧ w'.cell? ⟨X, 10, none⟩ = some (.int .i64 ic))
           (refine ⟨?_, ?_⟩ <;> (first | exact blk_cell HX7.out 9 | exact blk_cell HX7.out 10 | exact blk_cell HX8.out 9 | exact blk_cell HX8.out 10 | go_keep))
           ((first
              | (go_at_call 108
                 have _t := tokA
                 go_must (refine (Tryz.Builder_String_any_k B B acc _ (by first | exact hib.out | exact isB_drew hib.out) (by first | omega | (simp; omega))).mono ?_)
                 rintro e w7 ⟨rfl, hB7, hd7, _⟩
                 rw [bs_mk]
                 have hb7 : Below B wr w7 := ⟨hd7.os, hd7.tape, hd7.output, hd7.size, hd7.block⟩
                 have HI7 : Hid (IsB B B acc w7) := hB7
                 have HX7 := Lib.hid (blk_below HXr.out hb7 ltXB)
                 have HR7 := Lib.hid (blk_below HRr.out hb7 ltRB)
                 have HG7 := Lib.hid (gok_belowB HGr.out hb7 gnB)
                 have hg7 : GL [X] w w7 := gl_belowB hb7 hgr geB
                 clear hB7 hd7 tokA _t)
              | (go_at_call 32
                 have _t := tokB
                 have _p := HX7
                 go_must (refine (sMake ikey ic acc ikl om_ om_ _ (by first | exact HG7.out | exact gok_drew HG7.out | exact gok_drewN HG7.out _)).mono ?_)
                 rintro e w8 ⟨rfl, hd8⟩
                 rw [HMK.out]
                 have hb8 : Below w7.heap.size w7 w8 := ⟨hd8.os, hd8.tape, hd8.output, hd8.size, hd8.block⟩
                 have HI8 := Lib.hid (isB_below HI7.out hb8)
                 have HX8 := Lib.hid (blk_below HX7.out hb8 (blk_lt HX7.out))
                 have HR8 := Lib.hid (blk_below HR7.out hb8 (blk_lt HR7.out))
                 have HG8 := Lib.hid (gok_below HG7.out hb8)
                 have hg8 : GL [X] w w8 := gl_below hb8 hg7
                 clear hd8 tokB _t _p)))
          clear x0 x1 x2
          have z0 := blk_cell HR8.out
          have z1 := blk_free HR8.out
          have z2 := blk_lt HR8.out
          by_cases hmg : mg = 0
          · subst hmg
            by_cases hmt : mt = t
            · have H4 : Hid (readM ikey ic t = some acc) := by show _ = _; rw [H3.out, if_neg (by simp [hmt])]
              have b2 : (mt == t) = true := by simp [hmt]
              have b3 : (mt != t) = false := by simp [hmt]
              clear hmt z0 z1 z2
              have y0 := blk_cell HX8.out
              have y1 := blk_free HX8.out
              have y2 := blk_lt HX8.out
              go_wp2_with fail
              refine (sOnIn X own drawn peer dials opn closed key okey oc ikey ic _ ikl hic _ HX8.out hXg HG8.out).mono ?_
              rintro e w9 ⟨rfl, hx9, hl9⟩
              have HX9 := Lib.hid hx9
              have HI9 := Lib.hid (isB_gl HI8.out hl9 ltXB)
              have HR9 := Lib.hid (blk_gl HR8.out hl9 so_)
              have hg9 : GL [X] w w9 := gl_step hl9 hg8 si_
              have hB9 : B ≤ w9.heap.size := by have h1 := hl9.size; have h2 := hb8.size; have h3 := hb7.size; omega
              clear hx9 y0 y1 y2
              go_wp2_with fail
              refine (Tryz.Builder_String_any_k B B acc _ HI9.out hB9).mono ?_
              rintro e w10 ⟨rfl, _, hb10, _⟩
              rw [bs_mk]
              have HX10 : Hid (SesAt w10 X own drawn peer dials opn closed key okey oc (onM ikey ic).1 ((onM ikey ic).2 : Nat) (.func (.func 96) #[.pointer (some ⟨X, 0, none⟩)] #[])) := blk_below HX9.out hb10 ltXB
              have HR10 := Lib.hid (blk_below HR9.out hb10 ltRB)
              have hg10 : GL [X] w w10 := gl_belowB hb10 hg9 geB
              have z0 := blk_cell HR10.out
              have z1 := blk_free HR10.out
              have z2 := blk_lt HR10.out
              go_wp2_with fail
              refine bodyPost_ret (v := .tuple #[.agg #[.string (bs []), .string (bs acc), .bool true], .bool true]) (by simp [results, Tryz.results96, go_sem, z0, z1, z2]) rfl ?_
              rw [H4.out]
              exact ⟨(gl_setn si_ (gl_setn si_ (gl_setn si_ hg10 _) _) _), rfl, (blk_ne (blk_ne (blk_ne HX10.out (p := ⟨w.heap.size, 0, none⟩) so_ _) (p := ⟨w.heap.size, 1, none⟩) so_ _) (p := ⟨w.heap.size, 2, none⟩) so_ _)⟩
            · have H4 : Hid (readM ikey ic t = none) := by show _ = _; rw [H3.out, if_pos (.inr hmt)]
              have b2 : (mt == t) = false := by simpa using hmt
              have b3 : (mt != t) = true := by simpa using hmt
              clear hmt
              go_wp2_with fail
              refine bodyPost_ret (v := .tuple #[.agg #[.string (bs []), .string (bs []), .bool false], .bool false]) (by simp [results, Tryz.results96, go_sem, z0, z1, z2]) rfl ?_
              rw [H4.out]
              exact ⟨(gl_setn si_ (gl_setn si_ (gl_setn si_ hg8 _) _) _), rfl, (blk_ne (blk_ne (blk_ne HX8.out (p := ⟨w.heap.size, 0, none⟩) so_ _) (p := ⟨w.heap.size, 1, none⟩) so_ _) (p := ⟨w.heap.size, 2, none⟩) so_ _)⟩
          · have H4 : Hid (readM ikey ic t = none) := by show _ = _; rw [H3.out, if_pos (.inl hmg)]
            have b2 : (mg != 0) = true := by simpa using hmg
            clear hmg
            go_wp2_with fail
            refine bodyPost_ret (v := .tuple #[.agg #[.string (bs []), .string (bs []), .bool false], .bool false]) (by simp [results, Tryz.results96, go_sem, z0, z1, z2]) rfl ?_
            rw [H4.out]
            exact ⟨(gl_setn si_ (gl_setn si_ (gl_setn si_ hg8 _) _) _), rfl, (blk_ne (blk_ne (blk_ne HX8.out (p := ⟨w.heap.size, 0, none⟩) so_ _) (p := ⟨w.heap.size, 1, none⟩) so_ _) (p := ⟨w.heap.size, 2, none⟩) so_ _)⟩
end Go.Proofs.YtaaiaahkakkleaaGreatDoor
-- SesJ
namespace Go.Proofs.YtaaiaahkakkleaaGreatDoor
open Go.RowKit
def DeadAt (w : World) (X : Nat) (peer : List UInt8) : Prop := ∃ own drawn dials opn key okey oc ikey ic nx, SesAt w X own drawn peer dials opn true key okey oc ikey ic nx
def HearOne (X : Nat) (own drawn peer : List UInt8) (dials : Bool) (key okey : List UInt8) (oc : Int) (ikey : List UInt8) (ic : Int) (w : World) (r : Option (List UInt8 × List UInt8)) (e : Ending) (w' : World) : Prop :=
 GL [X] w w' ∧ match r with
 | none => e = .returned (.tuple #[.agg #[.string (bs []), .string (bs []), .bool false], .int .i64 210]) ∧ DeadAt w' X peer
 | some (k, say) => e = .returned (.tuple #[.agg #[.string (bs say), .string (bs []), .bool false], .int .i64 0]) ∧ SesAt w' X own drawn peer dials false false k okey oc ikey ic (.func (.func 67) #[.pointer (some ⟨X, 0, none⟩)] #[])
def HearTwo (X : Nat) (own drawn peer : List UInt8) (dials : Bool) (key : List UInt8) (w : World) (r : Nat × ((List UInt8 × List UInt8) × List UInt8)) (e : Ending) (w' : World) : Prop :=
 GL [X] w w' ∧ if r.1 = 2 then e = .returned (.tuple #[.agg #[.string (bs r.2.2), .string (bs []), .bool false], .int .i64 0]) ∧ SesAt w' X own drawn peer dials true false key (if dials = true then r.2.1.1 else r.2.1.2) 0 (if dials = true then r.2.1.2 else r.2.1.1) 0 (.func (.func 96) #[.pointer (some ⟨X, 0, none⟩)] #[])
  else e = .returned (.tuple #[.agg #[.string (bs []), .string (bs []), .bool false], .int .i64 210]) ∧ DeadAt w' X peer
def HearThree (X : Nat) (own drawn peer : List UInt8) (dials : Bool) (key : List UInt8) (w : World) (r : Nat × ((List UInt8 × List UInt8) × List UInt8)) (e : Ending) (w' : World) : Prop :=
 GL [X] w w' ∧ if r.1 = 2 then e = .returned (.tuple #[.agg #[.string (bs []), .string (bs []), .bool false], .int .i64 0]) ∧ SesAt w' X own drawn r.2.2 dials true false key (if dials = true then r.2.1.1 else r.2.1.2) 0 (if dials = true then r.2.1.2 else r.2.1.1) 0 (.func (.func 96) #[.pointer (some ⟨X, 0, none⟩)] #[])
  else e = .returned (.tuple #[.agg #[.string (bs []), .string (bs []), .bool false], .int .i64 210]) ∧ DeadAt w' X peer
def HearFrame (X : Nat) (own drawn peer : List UInt8) (dials : Bool) (key okey : List UInt8) (oc : Int) (ikey : List UInt8) (ic : Nat) (w : World) (r : Option (List UInt8)) (e : Ending) (w' : World) : Prop :=
 GL [X] w w' ∧ match r with
 | none => e = .returned (.tuple #[.agg #[.string (bs []), .string (bs []), .bool false], .int .i64 211]) ∧ DeadAt w' X peer
 | some x => e = .returned (.tuple #[.agg #[.string (bs []), .string (bs x), .bool true], .int .i64 0]) ∧ SesAt w' X own drawn peer dials true false key okey oc (onM ikey ic).1 ((onM ikey ic).2 : Nat) (.func (.func 96) #[.pointer (some ⟨X, 0, none⟩)] #[])
theorem hearOne (t : List UInt8) (X : Nat) (own drawn peer : List UInt8) (dials : Bool) (key okey : List UInt8) (oc : Int) (ikey : List UInt8) (ic : Int) (hown : own.length ≤ 9000000000000000000) (hdrawn : drawn.length ≤ 9000000000000000000) (ht : t.length ≤ 9000000000000000000) (w : World) (hX : SesAt w X own drawn peer dials false false key okey oc ikey ic (.func (.func 43) #[.pointer (some ⟨X, 0, none⟩)] #[])) (hXg : gN ≤ X) (hG : GOk w) :
  Calls Tryz.prog 12 #[.pointer (some ⟨X, 0, none⟩), .string (bs t)] w (HearOne X own drawn peer dials key okey oc ikey ic w (oneM own drawn t)) := by
 have HG0 := Lib.hid hG
 have HX0 := Lib.hid hX
 have ltX := blk_lt hX
 have hs := hG.size
 clear hG hX
 cases hr : oneM own drawn t with
 | none =>
   have HR' := Lib.hid hr
   clear hr
   go_enter Tryz.func12, Tryz.ntmps12
   have hg0 : GL [X] w w := gl_refl _ _
   have hs0 : w.heap.size ≤ w.heap.size := Nat.le_refl _
   have fa1 := blk_cell HX0.out
   have fb1 := blk_free HX0.out
   have fl1 := blk_lt HX0.out
   go_wp2_with fail
   clear fa1 fb1 fl1
   have HXr := Lib.hid (blk_alloc HX0.out (.cells #[.string (bs []), .string (bs []), .bool false] 53))
   have ltXR : X < w.heap.size := by have := blk_lt HX0.out; omega
   have neXR : X ≠ w.heap.size := by omega
   have neRX : w.heap.size ≠ X := by omega
   have HRr : Hid ((w.alloc (.cells #[.string (bs []), .string (bs []), .bool false] 53)).heap[w.heap.size]? = some (.cells #[.string (bs []), .string (bs []), .bool false] 53 (0, 0))) := by
    have h := blk_new w (.cells #[.string (bs []), .string (bs []), .bool false] 53)
    exact h
   have HGr := Lib.hid (gok_alloc HG0.out (.cells #[.string (bs []), .string (bs []), .bool false] 53))
   have hgr : GL [X] w (w.alloc (.cells #[.string (bs []), .string (bs []), .bool false] 53)) := (gl_alloc hg0 (.cells #[.string (bs []), .string (bs []), .bool false] 53))
   generalize (w.alloc (.cells #[.string (bs []), .string (bs []), .bool false] 53)) = wr at *
   have hsr := hgr.size
   refine (sOne t X own drawn peer dials false false key okey oc ikey ic hown hdrawn ht _ HXr.out hXg HGr.out).mono ?_
   rintro e w1 hp
   rw [HR'.out] at hp
   obtain ⟨hl1, rfl, hx1⟩ := hp
   have HX1 := Lib.hid hx1
   have HR1 := Lib.hid (blk_gl HRr.out hl1 so_)
   have hg1 : GL [X] w w1 := gl_step hl1 hgr si_
   clear hx1
   have z0 := blk_cell HR1.out
   have z1 := blk_free HR1.out
   have z2 := blk_lt HR1.out
   have x0 := blk_cell HX1.out
   have x1 := blk_free HX1.out
   have x2 := blk_lt HX1.out
   go_wp2_with fail
   refine bodyPost_ret (v := .tuple #[.agg #[.string (bs []), .string (bs []), .bool false], .int .i64 210]) (by simp [results, Tryz.results12, go_sem, z0, z1, z2]) rfl ?_
   exact ⟨gl_, rfl, ⟨_, _, _, _, _, _, _, _, _, _, blk_alloc (blk_ne (blk_ne (blk_ne (blk_set HX1.out 5 _) (p := ⟨w.heap.size, 0, none⟩) so_ _) (p := ⟨w.heap.size, 1, none⟩) so_ _) (p := ⟨w.heap.size, 2, none⟩) so_ _) _⟩⟩
 | some r =>
   obtain ⟨k, say⟩ := r
   have HR' := Lib.hid hr
   clear hr
   go_enter Tryz.func12, Tryz.ntmps12
   have hg0 : GL [X] w w := gl_refl _ _
   have hs0 : w.heap.size ≤ w.heap.size := Nat.le_refl _
   have fa1 := blk_cell HX0.out
   have fb1 := blk_free HX0.out
   have fl1 := blk_lt HX0.out
   go_wp2_with fail
   clear fa1 fb1 fl1
   have HXr := Lib.hid (blk_alloc HX0.out (.cells #[.string (bs []), .string (bs []), .bool false] 53))
   have ltXR : X < w.heap.size := by have := blk_lt HX0.out; omega
   have neXR : X ≠ w.heap.size := by omega
   have neRX : w.heap.size ≠ X := by omega
   have HRr : Hid ((w.alloc (.cells #[.string (bs []), .string (bs []), .bool false] 53)).heap[w.heap.size]? = some (.cells #[.string (bs []), .string (bs []), .bool false] 53 (0, 0))) := by
    have h := blk_new w (.cells #[.string (bs []), .string (bs []), .bool false] 53)
    exact h
   have HGr := Lib.hid (gok_alloc HG0.out (.cells #[.string (bs []), .string (bs []), .bool false] 53))
   have hgr : GL [X] w (w.alloc (.cells #[.string (bs []), .string (bs []), .bool false] 53)) := (gl_alloc hg0 (.cells #[.string (bs []), .string (bs []), .bool false] 53))
   generalize (w.alloc (.cells #[.string (bs []), .string (bs []), .bool false] 53)) = wr at *
   have hsr := hgr.size
   refine (sOne t X own drawn peer dials false false key okey oc ikey ic hown hdrawn ht _ HXr.out hXg HGr.out).mono ?_
   rintro e w1 hp
   rw [HR'.out] at hp
   obtain ⟨hl1, rfl, hx1⟩ := hp
   have HX1 := Lib.hid hx1
   have HR1 := Lib.hid (blk_gl HRr.out hl1 so_)
   have hg1 : GL [X] w w1 := gl_step hl1 hgr si_
   clear hx1
   have z0 := blk_cell HR1.out
   have z1 := blk_free HR1.out
   have z2 := blk_lt HR1.out
   go_wp2_with fail
   refine bodyPost_ret (v := .tuple #[.agg #[.string (bs say), .string (bs []), .bool false], .int .i64 0]) (by simp [results, Tryz.results12, go_sem, z0, z1, z2]) rfl ?_
   exact ⟨gl_, rfl, blk_alloc (blk_ne (blk_ne (blk_ne HX1.out (p := ⟨w.heap.size, 0, none⟩) so_ _) (p := ⟨w.heap.size, 1, none⟩) so_ _) (p := ⟨w.heap.size, 2, none⟩) so_ _) _⟩
theorem hearTwo (t : List UInt8) (X : Nat) (own drawn peer : List UInt8) (dials : Bool) (key okey : List UInt8) (oc : Int) (ikey : List UInt8) (ic : Int) (hown : own.length ≤ 9000000000000000000) (hdrawn : drawn.length ≤ 9000000000000000000) (hkey : key.length ≤ 9000000000000000000) (ht : t.length ≤ 9000000000000000000) (w : World) (hX : SesAt w X own drawn peer dials false false key okey oc ikey ic (.func (.func 48) #[.pointer (some ⟨X, 0, none⟩)] #[])) (hXg : gN ≤ X) (hG : GOk w) :
  Calls Tryz.prog 12 #[.pointer (some ⟨X, 0, none⟩), .string (bs t)] w (HearTwo X own drawn peer dials key w (twoM own drawn key t)) := by
 have HG0 := Lib.hid hG
 have HX0 := Lib.hid hX
 have ltX := blk_lt hX
 have hs := hG.size
 clear hG hX
 obtain ⟨n, o, sy, hr⟩ : ∃ n o sy, twoM own drawn key t = (n, (o, sy)) := ⟨_, _, _, rfl⟩
 obtain ⟨oA, hoA⟩ : ∃ y, (if dials = true then o.1 else o.2) = y := ⟨_, rfl⟩
 obtain ⟨oB, hoB⟩ : ∃ y, (if dials = true then o.2 else o.1) = y := ⟨_, rfl⟩
 have HOA := Lib.hid hoA
 have HOB := Lib.hid hoB
 have HR' := Lib.hid hr
 clear hr hoA hoB
 rw [HR'.out]
 by_cases h2 : n = 2
 · subst h2
   go_enter Tryz.func12, Tryz.ntmps12
   have hg0 : GL [X] w w := gl_refl _ _
   have hs0 : w.heap.size ≤ w.heap.size := Nat.le_refl _
   have fa1 := blk_cell HX0.out
   have fb1 := blk_free HX0.out
   have fl1 := blk_lt HX0.out
   go_wp2_with fail
   clear fa1 fb1 fl1
   have HXr := Lib.hid (blk_alloc HX0.out (.cells #[.string (bs []), .string (bs []), .bool false] 53))
   have ltXR : X < w.heap.size := by have := blk_lt HX0.out; omega
   have neXR : X ≠ w.heap.size := by omega
   have neRX : w.heap.size ≠ X := by omega
   have HRr : Hid ((w.alloc (.cells #[.string (bs []), .string (bs []), .bool false] 53)).heap[w.heap.size]? = some (.cells #[.string (bs []), .string (bs []), .bool false] 53 (0, 0))) := by
    have h := blk_new w (.cells #[.string (bs []), .string (bs []), .bool false] 53)
    exact h
   have HGr := Lib.hid (gok_alloc HG0.out (.cells #[.string (bs []), .string (bs []), .bool false] 53))
   have hgr : GL [X] w (w.alloc (.cells #[.string (bs []), .string (bs []), .bool false] 53)) := (gl_alloc hg0 (.cells #[.string (bs []), .string (bs []), .bool false] 53))
   generalize (w.alloc (.cells #[.string (bs []), .string (bs []), .bool false] 53)) = wr at *
   have hsr := hgr.size
   refine (sTwo t X own drawn peer dials false false key okey oc ikey ic hown hdrawn hkey ht _ HXr.out hXg HGr.out).mono ?_
   rintro e w1 hp
   rw [HR'.out] at hp
   obtain ⟨hl1, he, hx1⟩ := hp
   obtain rfl : e = .returned (.tuple #[.agg #[.string (bs sy), .string (bs []), .bool false], .bool true]) := he
   have hx2 : SesAt w1 X own drawn peer dials true false key (if dials = true then o.1 else o.2) 0 (if dials = true then o.2 else o.1) 0 (.func (.func 96) #[.pointer (some ⟨X, 0, none⟩)] #[]) := hx1
   rw [HOA.out, HOB.out] at hx2
   have HX1 := Lib.hid hx2
   have HR1 := Lib.hid (blk_gl HRr.out hl1 so_)
   have hg1 : GL [X] w w1 := gl_step hl1 hgr si_
   clear hx1 hx2
   have z0 := blk_cell HR1.out
   have z1 := blk_free HR1.out
   have z2 := blk_lt HR1.out
   go_wp2_with fail
   refine bodyPost_ret (v := .tuple #[.agg #[.string (bs sy), .string (bs []), .bool false], .int .i64 0]) (by simp [results, Tryz.results12, go_sem, z0, z1, z2]) rfl ?_
   refine ⟨gl_, ?_⟩
   rw [if_pos rfl]
   refine ⟨rfl, ?_⟩
   show SesAt _ X own drawn peer dials true false key (if dials = true then o.1 else o.2) 0 (if dials = true then o.2 else o.1) 0 _
   rw [HOA.out, HOB.out]
   exact blk_alloc (blk_ne (blk_ne (blk_ne HX1.out (p := ⟨w.heap.size, 0, none⟩) so_ _) (p := ⟨w.heap.size, 1, none⟩) so_ _) (p := ⟨w.heap.size, 2, none⟩) so_ _) _
 · by_cases h0 : n = 0
   · subst h0
     go_enter Tryz.func12, Tryz.ntmps12
     have hg0 : GL [X] w w := gl_refl _ _
     have hs0 : w.heap.size ≤ w.heap.size := Nat.le_refl _
     have fa1 := blk_cell HX0.out
     have fb1 := blk_free HX0.out
     have fl1 := blk_lt HX0.out
     go_wp2_with fail
     clear fa1 fb1 fl1
     have HXr := Lib.hid (blk_alloc HX0.out (.cells #[.string (bs []), .string (bs []), .bool false] 53))
     have ltXR : X < w.heap.size := by have := blk_lt HX0.out; omega
     have neXR : X ≠ w.heap.size := by omega
     have neRX : w.heap.size ≠ X := by omega
     have HRr : Hid ((w.alloc (.cells #[.string (bs []), .string (bs []), .bool false] 53)).heap[w.heap.size]? = some (.cells #[.string (bs []), .string (bs []), .bool false] 53 (0, 0))) := by
      have h := blk_new w (.cells #[.string (bs []), .string (bs []), .bool false] 53)
      exact h
     have HGr := Lib.hid (gok_alloc HG0.out (.cells #[.string (bs []), .string (bs []), .bool false] 53))
     have hgr : GL [X] w (w.alloc (.cells #[.string (bs []), .string (bs []), .bool false] 53)) := (gl_alloc hg0 (.cells #[.string (bs []), .string (bs []), .bool false] 53))
     generalize (w.alloc (.cells #[.string (bs []), .string (bs []), .bool false] 53)) = wr at *
     have hsr := hgr.size
     refine (sTwo t X own drawn peer dials false false key okey oc ikey ic hown hdrawn hkey ht _ HXr.out hXg HGr.out).mono ?_
     rintro e w1 hp
     rw [HR'.out] at hp
     obtain ⟨hl1, he, hx1⟩ := hp
     obtain rfl : e = .returned (.tuple #[.agg #[.string (bs []), .string (bs []), .bool false], .bool false]) := he
     have hx2 : SesAt w1 X own drawn peer dials false false key okey oc ikey ic (.func (.func 48) #[.pointer (some ⟨X, 0, none⟩)] #[]) := hx1
     have HX1 := Lib.hid hx2
     have HR1 := Lib.hid (blk_gl HRr.out hl1 so_)
     have hg1 : GL [X] w w1 := gl_step hl1 hgr si_
     clear hx1 hx2
     have z0 := blk_cell HR1.out
     have z1 := blk_free HR1.out
     have z2 := blk_lt HR1.out
     have x0 := blk_cell HX1.out
     have x1 := blk_free HX1.out
     have x2 := blk_lt HX1.out
     go_wp2_with fail
     refine bodyPost_ret (v := .tuple #[.agg #[.string (bs []), .string (bs []), .bool false], .int .i64 210]) (by simp [results, Tryz.results12, go_sem, z0, z1, z2]) rfl ?_
     refine ⟨gl_, ?_⟩
     rw [if_neg si_]
     exact ⟨rfl, ⟨_, _, _, _, _, _, _, _, _, _, blk_alloc (blk_ne (blk_ne (blk_ne (blk_set HX1.out 5 _) (p := ⟨w.heap.size, 0, none⟩) so_ _) (p := ⟨w.heap.size, 1, none⟩) so_ _) (p := ⟨w.heap.size, 2, none⟩) so_ _) _⟩⟩
   · have e0 : (n == 2) = false := by simpa using h2
     have E0 := Lib.hid e0
     have H20 := Lib.hid h2
     have H00 := Lib.hid h0
     clear e0 h2 h0
     go_enter Tryz.func12, Tryz.ntmps12
     have hg0 : GL [X] w w := gl_refl _ _
     have hs0 : w.heap.size ≤ w.heap.size := Nat.le_refl _
     have fa1 := blk_cell HX0.out
     have fb1 := blk_free HX0.out
     have fl1 := blk_lt HX0.out
     go_wp2_with fail
     clear fa1 fb1 fl1
     have HXr := Lib.hid (blk_alloc HX0.out (.cells #[.string (bs []), .string (bs []), .bool false] 53))
     have ltXR : X < w.heap.size := by have := blk_lt HX0.out; omega
     have neXR : X ≠ w.heap.size := by omega
     have neRX : w.heap.size ≠ X := by omega
     have HRr : Hid ((w.alloc (.cells #[.string (bs []), .string (bs []), .bool false] 53)).heap[w.heap.size]? = some (.cells #[.string (bs []), .string (bs []), .bool false] 53 (0, 0))) := by
      have h := blk_new w (.cells #[.string (bs []), .string (bs []), .bool false] 53)
      exact h
     have HGr := Lib.hid (gok_alloc HG0.out (.cells #[.string (bs []), .string (bs []), .bool false] 53))
     have hgr : GL [X] w (w.alloc (.cells #[.string (bs []), .string (bs []), .bool false] 53)) := (gl_alloc hg0 (.cells #[.string (bs []), .string (bs []), .bool false] 53))
     generalize (w.alloc (.cells #[.string (bs []), .string (bs []), .bool false] 53)) = wr at *
     have hsr := hgr.size
     refine (sTwo t X own drawn peer dials false false key okey oc ikey ic hown hdrawn hkey ht _ HXr.out hXg HGr.out).mono ?_
     rintro e w1 hp
     rw [HR'.out] at hp
     obtain ⟨hl1, he, hx1⟩ := hp
     dsimp only at he hx1
     rw [if_neg H20.out] at he
     subst he
     rw [if_neg H00.out, E0.out, HOA.out, HOB.out] at hx1
     have hx2 : SesAt w1 X own drawn peer dials false false key oA 0 oB 0 (.func (.func 96) #[.pointer (some ⟨X, 0, none⟩)] #[]) := hx1
     have HX1 := Lib.hid hx2
     have HR1 := Lib.hid (blk_gl HRr.out hl1 so_)
     have hg1 : GL [X] w w1 := gl_step hl1 hgr si_
     clear hx1 hx2
     have z0 := blk_cell HR1.out
     have z1 := blk_free HR1.out
     have z2 := blk_lt HR1.out
     have x0 := blk_cell HX1.out
     have x1 := blk_free HX1.out
     have x2 := blk_lt HX1.out
     go_wp2_with fail
     refine bodyPost_ret (v := .tuple #[.agg #[.string (bs []), .string (bs []), .bool false], .int .i64 210]) (by simp [results, Tryz.results12, go_sem, z0, z1, z2]) rfl ?_
     refine ⟨gl_, ?_⟩
     rw [if_neg H20.out]
     exact ⟨rfl, ⟨_, _, _, _, _, _, _, _, _, _, blk_alloc (blk_ne (blk_ne (blk_ne (blk_set HX1.out 5 _) (p := ⟨w.heap.size, 0, none⟩) so_ _) (p := ⟨w.heap.size, 1, none⟩) so_ _) (p := ⟨w.heap.size, 2, none⟩) so_ _) _⟩⟩
theorem hearThree (t : List UInt8) (X : Nat) (own drawn peer : List UInt8) (dials : Bool) (key okey : List UInt8) (oc : Int) (ikey : List UInt8) (ic : Int) (hown : own.length ≤ 9000000000000000000) (hdrawn : drawn.length ≤ 9000000000000000000) (hkey : key.length ≤ 9000000000000000000) (ht : t.length ≤ 9000000000000000000) (w : World) (hX : SesAt w X own drawn peer dials false false key okey oc ikey ic (.func (.func 67) #[.pointer (some ⟨X, 0, none⟩)] #[])) (hXg : gN ≤ X) (hG : GOk w) :
  Calls Tryz.prog 12 #[.pointer (some ⟨X, 0, none⟩), .string (bs t)] w (HearThree X own drawn peer dials key w (threeM drawn key t)) := by
 have HG0 := Lib.hid hG
 have HX0 := Lib.hid hX
 have ltX := blk_lt hX
 have hs := hG.size
 clear hG hX
 obtain ⟨n, o, sy, hr⟩ : ∃ n o sy, threeM drawn key t = (n, (o, sy)) := ⟨_, _, _, rfl⟩
 obtain ⟨oA, hoA⟩ : ∃ y, (if dials = true then o.1 else o.2) = y := ⟨_, rfl⟩
 obtain ⟨oB, hoB⟩ : ∃ y, (if dials = true then o.2 else o.1) = y := ⟨_, rfl⟩
 have HOA := Lib.hid hoA
 have HOB := Lib.hid hoB
 have HR' := Lib.hid hr
 clear hr hoA hoB
 rw [HR'.out]
 by_cases h2 : n = 2
 · subst h2
   go_enter Tryz.func12, Tryz.ntmps12
   have hg0 : GL [X] w w := gl_refl _ _
   have hs0 : w.heap.size ≤ w.heap.size := Nat.le_refl _
   have fa1 := blk_cell HX0.out
   have fb1 := blk_free HX0.out
   have fl1 := blk_lt HX0.out
   go_wp2_with fail
   clear fa1 fb1 fl1
   have HXr := Lib.hid (blk_alloc HX0.out (.cells #[.string (bs []), .string (bs []), .bool false] 53))
   have ltXR : X < w.heap.size := by have := blk_lt HX0.out; omega
   have neXR : X ≠ w.heap.size := by omega
   have neRX : w.heap.size ≠ X := by omega
   have HRr : Hid ((w.alloc (.cells #[.string (bs []), .string (bs []), .bool false] 53)).heap[w.heap.size]? = some (.cells #[.string (bs []), .string (bs []), .bool false] 53 (0, 0))) := by
    have h := blk_new w (.cells #[.string (bs []), .string (bs []), .bool false] 53)
    exact h
   have HGr := Lib.hid (gok_alloc HG0.out (.cells #[.string (bs []), .string (bs []), .bool false] 53))
   have hgr : GL [X] w (w.alloc (.cells #[.string (bs []), .string (bs []), .bool false] 53)) := (gl_alloc hg0 (.cells #[.string (bs []), .string (bs []), .bool false] 53))
   generalize (w.alloc (.cells #[.string (bs []), .string (bs []), .bool false] 53)) = wr at *
   have hsr := hgr.size
   refine (sThree t X own drawn peer dials false false key okey oc ikey ic hown hdrawn hkey ht _ HXr.out hXg HGr.out).mono ?_
   rintro e w1 hp
   rw [HR'.out] at hp
   obtain ⟨hl1, he, hx1⟩ := hp
   obtain rfl : e = .returned (.tuple #[.agg #[.string (bs []), .string (bs []), .bool false], .bool true]) := he
   have hx2 : SesAt w1 X own drawn sy dials true false key (if dials = true then o.1 else o.2) 0 (if dials = true then o.2 else o.1) 0 (.func (.func 96) #[.pointer (some ⟨X, 0, none⟩)] #[]) := hx1
   rw [HOA.out, HOB.out] at hx2
   have HX1 := Lib.hid hx2
   have HR1 := Lib.hid (blk_gl HRr.out hl1 so_)
   have hg1 : GL [X] w w1 := gl_step hl1 hgr si_
   clear hx1 hx2
   have z0 := blk_cell HR1.out
   have z1 := blk_free HR1.out
   have z2 := blk_lt HR1.out
   go_wp2_with fail
   refine bodyPost_ret (v := .tuple #[.agg #[.string (bs []), .string (bs []), .bool false], .int .i64 0]) (by simp [results, Tryz.results12, go_sem, z0, z1, z2]) rfl ?_
   refine ⟨gl_, ?_⟩
   rw [if_pos rfl]
   refine ⟨rfl, ?_⟩
   show SesAt _ X own drawn sy dials true false key (if dials = true then o.1 else o.2) 0 (if dials = true then o.2 else o.1) 0 _
   rw [HOA.out, HOB.out]
   exact blk_alloc (blk_ne (blk_ne (blk_ne HX1.out (p := ⟨w.heap.size, 0, none⟩) so_ _) (p := ⟨w.heap.size, 1, none⟩) so_ _) (p := ⟨w.heap.size, 2, none⟩) so_ _) _
 · by_cases h0 : n = 0
   · subst h0
     go_enter Tryz.func12, Tryz.ntmps12
     have hg0 : GL [X] w w := gl_refl _ _
     have hs0 : w.heap.size ≤ w.heap.size := Nat.le_refl _
     have fa1 := blk_cell HX0.out
     have fb1 := blk_free HX0.out
     have fl1 := blk_lt HX0.out
     go_wp2_with fail
     clear fa1 fb1 fl1
     have HXr := Lib.hid (blk_alloc HX0.out (.cells #[.string (bs []), .string (bs []), .bool false] 53))
     have ltXR : X < w.heap.size := by have := blk_lt HX0.out; omega
     have neXR : X ≠ w.heap.size := by omega
     have neRX : w.heap.size ≠ X := by omega
     have HRr : Hid ((w.alloc (.cells #[.string (bs []), .string (bs []), .bool false] 53)).heap[w.heap.size]? = some (.cells #[.string (bs []), .string (bs []), .bool false] 53 (0, 0))) := by
      have h := blk_new w (.cells #[.string (bs []), .string (bs []), .bool false] 53)
      exact h
     have HGr := Lib.hid (gok_alloc HG0.out (.cells #[.string (bs []), .string (bs []), .bool false] 53))
     have hgr : GL [X] w (w.alloc (.cells #[.string (bs []), .string (bs []), .bool false] 53)) := (gl_alloc hg0 (.cells #[.string (bs []), .string (bs []), .bool false] 53))
     generalize (w.alloc (.cells #[.string (bs []), .string (bs []), .bool false] 53)) = wr at *
     have hsr := hgr.size
     refine (sThree t X own drawn peer dials false false key okey oc ikey ic hown hdrawn hkey ht _ HXr.out hXg HGr.out).mono ?_
     rintro e w1 hp
     rw [HR'.out] at hp
     obtain ⟨hl1, he, hx1⟩ := hp
     obtain rfl : e = .returned (.tuple #[.agg #[.string (bs []), .string (bs []), .bool false], .bool false]) := he
     have hx2 : SesAt w1 X own drawn peer dials false false key okey oc ikey ic (.func (.func 67) #[.pointer (some ⟨X, 0, none⟩)] #[]) := hx1
     have HX1 := Lib.hid hx2
     have HR1 := Lib.hid (blk_gl HRr.out hl1 so_)
     have hg1 : GL [X] w w1 := gl_step hl1 hgr si_
     clear hx1 hx2
     have z0 := blk_cell HR1.out
     have z1 := blk_free HR1.out
     have z2 := blk_lt HR1.out
     have x0 := blk_cell HX1.out
     have x1 := blk_free HX1.out
     have x2 := blk_lt HX1.out
     go_wp2_with fail
     refine bodyPost_ret (v := .tuple #[.agg #[.string (bs []), .string (bs []), .bool false], .int .i64 210]) (by simp [results, Tryz.results12, go_sem, z0, z1, z2]) rfl ?_
     refine ⟨gl_, ?_⟩
     rw [if_neg si_]
     exact ⟨rfl, ⟨_, _, _, _, _, _, _, _, _, _, blk_alloc (blk_ne (blk_ne (blk_ne (blk_set HX1.out 5 _) (p := ⟨w.heap.size, 0, none⟩) so_ _) (p := ⟨w.heap.size, 1, none⟩) so_ _) (p := ⟨w.heap.size, 2, none⟩) so_ _) _⟩⟩
   · have e0 : (n == 2) = false := by simpa using h2
     have E0 := Lib.hid e0
     have H20 := Lib.hid h2
     have H00 := Lib.hid h0
     clear e0 h2 h0
     go_enter Tryz.func12, Tryz.ntmps12
     have hg0 : GL [X] w w := gl_refl _ _
     have hs0 : w.heap.size ≤ w.heap.size := Nat.le_refl _
     have fa1 := blk_cell HX0.out
     have fb1 := blk_free HX0.out
     have fl1 := blk_lt HX0.out
     go_wp2_with fail
     clear fa1 fb1 fl1
     have HXr := Lib.hid (blk_alloc HX0.out (.cells #[.string (bs []), .string (bs []), .bool false] 53))
     have ltXR : X < w.heap.size := by have := blk_lt HX0.out; omega
     have neXR : X ≠ w.heap.size := by omega
     have neRX : w.heap.size ≠ X := by omega
     have HRr : Hid ((w.alloc (.cells #[.string (bs []), .string (bs []), .bool false] 53)).heap[w.heap.size]? = some (.cells #[.string (bs []), .string (bs []), .bool false] 53 (0, 0))) := by
      have h := blk_new w (.cells #[.string (bs []), .string (bs []), .bool false] 53)
      exact h
     have HGr := Lib.hid (gok_alloc HG0.out (.cells #[.string (bs []), .string (bs []), .bool false] 53))
     have hgr : GL [X] w (w.alloc (.cells #[.string (bs []), .string (bs []), .bool false] 53)) := (gl_alloc hg0 (.cells #[.string (bs []), .string (bs []), .bool false] 53))
     generalize (w.alloc (.cells #[.string (bs []), .string (bs []), .bool false] 53)) = wr at *
     have hsr := hgr.size
     refine (sThree t X own drawn peer dials false false key okey oc ikey ic hown hdrawn hkey ht _ HXr.out hXg HGr.out).mono ?_
     rintro e w1 hp
     rw [HR'.out] at hp
     obtain ⟨hl1, he, hx1⟩ := hp
     dsimp only at he hx1
     rw [E0.out] at he
     subst he
     rw [if_neg H00.out, E0.out, if_neg H20.out, HOA.out, HOB.out] at hx1
     have hx2 : SesAt w1 X own drawn peer dials false false key oA 0 oB 0 (.func (.func 96) #[.pointer (some ⟨X, 0, none⟩)] #[]) := hx1
     have HX1 := Lib.hid hx2
     have HR1 := Lib.hid (blk_gl HRr.out hl1 so_)
     have hg1 : GL [X] w w1 := gl_step hl1 hgr si_
     clear hx1 hx2
     have z0 := blk_cell HR1.out
     have z1 := blk_free HR1.out
     have z2 := blk_lt HR1.out
     have x0 := blk_cell HX1.out
     have x1 := blk_free HX1.out
     have x2 := blk_lt HX1.out
     go_wp2_with fail
     refine bodyPost_ret (v := .tuple #[.agg #[.string (bs []), .string (bs []), .bool false], .int .i64 210]) (by simp [results, Tryz.results12, go_sem, z0, z1, z2]) rfl ?_
     refine ⟨gl_, ?_⟩
     rw [if_neg H20.out]
     exact ⟨rfl, ⟨_, _, _, _, _, _, _, _, _, _, blk_alloc (blk_ne (blk_ne (blk_ne (blk_set HX1.out 5 _) (p := ⟨w.heap.size, 0, none⟩) so_ _) (p := ⟨w.heap.size, 1, none⟩) so_ _) (p := ⟨w.heap.size, 2, none⟩) so_ _) _⟩⟩
theorem hearFrame (t : List UInt8) (X : Nat) (own drawn peer : List UInt8) (dials : Bool) (key okey : List UInt8) (oc : Int) (ikey : List UInt8) (ic : Nat) (ht : t.length ≤ 9000000000000000000) (hikey : ikey.length ≤ 9000000000000000000) (hic : ic ≤ 99) (w : World) (hX : SesAt w X own drawn peer dials true false key okey oc ikey ic (.func (.func 96) #[.pointer (some ⟨X, 0, none⟩)] #[])) (hXg : gN ≤ X) (hG : GOk w) :
  Calls Tryz.prog 12 #[.pointer (some ⟨X, 0, none⟩), .string (bs t)] w (HearFrame X own drawn peer dials key okey oc ikey ic w (readM ikey ic t)) := by
 have HG0 := Lib.hid hG
 have HX0 := Lib.hid hX
 have ltX := blk_lt hX
 have hs := hG.size
 clear hG hX
 cases hr : readM ikey ic t with
 | none =>
   have HR' := Lib.hid hr
   clear hr
   go_enter Tryz.func12, Tryz.ntmps12
   have hg0 : GL [X] w w := gl_refl _ _
   have hs0 : w.heap.size ≤ w.heap.size := Nat.le_refl _
   have fa1 := blk_cell HX0.out
   have fb1 := blk_free HX0.out
   have fl1 := blk_lt HX0.out
   go_wp2_with fail
   clear fa1 fb1 fl1
   have HXr := Lib.hid (blk_alloc HX0.out (.cells #[.string (bs []), .string (bs []), .bool false] 53))
   have ltXR : X < w.heap.size := by have := blk_lt HX0.out; omega
   have neXR : X ≠ w.heap.size := by omega
   have neRX : w.heap.size ≠ X := by omega
   have HRr : Hid ((w.alloc (.cells #[.string (bs []), .string (bs []), .bool false] 53)).heap[w.heap.size]? = some (.cells #[.string (bs []), .string (bs []), .bool false] 53 (0, 0))) := by
    have h := blk_new w (.cells #[.string (bs []), .string (bs []), .bool false] 53)
    exact h
   have HGr := Lib.hid (gok_alloc HG0.out (.cells #[.string (bs []), .string (bs []), .bool false] 53))
   have hgr : GL [X] w (w.alloc (.cells #[.string (bs []), .string (bs []), .bool false] 53)) := (gl_alloc hg0 (.cells #[.string (bs []), .string (bs []), .bool false] 53))
   generalize (w.alloc (.cells #[.string (bs []), .string (bs []), .bool false] 53)) = wr at *
   have hsr := hgr.size
   refine (sFrame t X own drawn peer dials true false key okey oc ikey ic hic hikey ht _ HXr.out hXg HGr.out).mono ?_
   rintro e w1 hp
   rw [HR'.out] at hp
   obtain ⟨hl1, rfl, hx1⟩ := hp
   have HX1 := Lib.hid hx1
   have HR1 := Lib.hid (blk_gl HRr.out hl1 so_)
   have hg1 : GL [X] w w1 := gl_step hl1 hgr si_
   clear hx1
   have z0 := blk_cell HR1.out
   have z1 := blk_free HR1.out
   have z2 := blk_lt HR1.out
   have x0 := blk_cell HX1.out
   have x1 := blk_free HX1.out
   have x2 := blk_lt HX1.out
   go_wp2_with fail
   refine bodyPost_ret (v := .tuple #[.agg #[.string (bs []), .string (bs []), .bool false], .int .i64 211]) (by simp [results, Tryz.results12, go_sem, z0, z1, z2]) rfl ?_
   exact ⟨gl_, rfl, ⟨_, _, _, _, _, _, _, _, _, _, blk_alloc (blk_ne (blk_ne (blk_ne (blk_set HX1.out 5 _) (p := ⟨w.heap.size, 0, none⟩) so_ _) (p := ⟨w.heap.size, 1, none⟩) so_ _) (p := ⟨w.heap.size, 2, none⟩) so_ _) _⟩⟩
 | some x =>
   have HR' := Lib.hid hr
   clear hr
   go_enter Tryz.func12, Tryz.ntmps12
   have hg0 : GL [X] w w := gl_refl _ _
   have hs0 : w.heap.size ≤ w.heap.size := Nat.le_refl _
   have fa1 := blk_cell HX0.out
   have fb1 := blk_free HX0.out
   have fl1 := blk_lt HX0.out
   go_wp2_with fail
   clear fa1 fb1 fl1
   have HXr := Lib.hid (blk_alloc HX0.out (.cells #[.string (bs []), .string (bs []), .bool false] 53))
   have ltXR : X < w.heap.size := by have := blk_lt HX0.out; omega
   have neXR : X ≠ w.heap.size := by omega
   have neRX : w.heap.size ≠ X := by omega
   have HRr : Hid ((w.alloc (.cells #[.string (bs []), .string (bs []), .bool false] 53)).heap[w.heap.size]? = some (.cells #[.string (bs []), .string (bs []), .bool false] 53 (0, 0))) := by
    have h := blk_new w (.cells #[.string (bs []), .string (bs []), .bool false] 53)
    exact h
   have HGr := Lib.hid (gok_alloc HG0.out (.cells #[.string (bs []), .string (bs []), .bool false] 53))
   have hgr : GL [X] w (w.alloc (.cells #[.string (bs []), .string (bs []), .bool false] 53)) := (gl_alloc hg0 (.cells #[.string (bs []), .string (bs []), .bool false] 53))
   generalize (w.alloc (.cells #[.string (bs []), .string (bs []), .bool false] 53)) = wr at *
   have hsr := hgr.size
   refine (sFrame t X own drawn peer dials true false key okey oc ikey ic hic hikey ht _ HXr.out hXg HGr.out).mono ?_
   rintro e w1 hp
   rw [HR'.out] at hp
   obtain ⟨hl1, rfl, hx1⟩ := hp
   have HX1 := Lib.hid hx1
   have HR1 := Lib.hid (blk_gl HRr.out hl1 so_)
   have hg1 : GL [X] w w1 := gl_step hl1 hgr si_
   clear hx1
   have z0 := blk_cell HR1.out
   have z1 := blk_free HR1.out
   have z2 := blk_lt HR1.out
   go_wp2_with fail
   refine bodyPost_ret (v := .tuple #[.agg #[.string (bs []), .string (bs x), .bool true], .int .i64 0]) (by simp [results, Tryz.results12, go_sem, z0, z1, z2]) rfl ?_
   exact ⟨gl_, rfl, blk_alloc (blk_ne (blk_ne (blk_ne HX1.out (p := ⟨w.heap.size, 0, none⟩) so_ _) (p := ⟨w.heap.size, 1, none⟩) so_ _) (p := ⟨w.heap.size, 2, none⟩) so_ _) _⟩
theorem hearDead (t : List UInt8) (X : Nat) (peer : List UInt8) (w : World) (hX : DeadAt w X peer) :
  Calls Tryz.prog 12 #[.pointer (some ⟨X, 0, none⟩), .string (bs t)] w fun e w' => e = .returned (.tuple #[.agg #[.string (bs []), .string (bs []), .bool false], .int .i64 212]) ∧ Below w.heap.size w w' := by
 obtain ⟨own, drawn, dials, opn, key, okey, oc, ikey, ic, nx, hX⟩ := hX
 have x0 := blk_cell hX
 have x2 := blk_lt hX
 clear hX
 go_enter Tryz.func12, Tryz.ntmps12
 go_wp2_with fail
 exact bodyPost_ret (v := .tuple #[.agg #[.string (bs []), .string (bs []), .bool false], .int .i64 212]) (by simp [results, Tryz.results12, go_sem]) rfl ⟨rfl, bl_⟩
theorem hearNil (t : List UInt8) (w : World) :
  Calls Tryz.prog 12 #[.pointer none, .string (bs t)] w fun e w' => e = .returned (.tuple #[.agg #[.string (bs []), .string (bs []), .bool false], .int .i64 1]) ∧ Below w.heap.size w w' := by
 go_enter Tryz.func12, Tryz.ntmps12
 go_wp2_with fail
 exact bodyPost_ret (v := .tuple #[.agg #[.string (bs []), .string (bs []), .bool false], .int .i64 1]) (by simp [results, Tryz.results12, go_sem]) rfl ⟨rfl, bl_⟩
end Go.Proofs.YtaaiaahkakkleaaGreatDoor
-- SesK
namespace Go.Proofs.YtaaiaahkakkleaaGreatDoor
open Go.RowKit
theorem sendNil (s : List UInt8) (w : World) :
  Calls Tryz.prog 13 #[.pointer none, .string (bs s)] w fun e w' => e = .returned (.tuple #[.string (bs []), .int .i64 1]) ∧ w = w' := by
 go_enter Tryz.func13, Tryz.ntmps13
 go_wp2_with fail
 go_ret2
 exact ⟨rfl, rfl⟩
theorem sendDead (s : List UInt8) (X : Nat) (peer : List UInt8) (w : World) (hX : DeadAt w X peer) :
  Calls Tryz.prog 13 #[.pointer (some ⟨X, 0, none⟩), .string (bs s)] w fun e w' => e = .returned (.tuple #[.string (bs []), .int .i64 212]) ∧ w = w' := by
 obtain ⟨own, drawn, dials, opn, key, okey, oc, ikey, ic, nx, hX⟩ := hX
 have x0 := blk_cell hX
 clear hX
 go_enter Tryz.func13, Tryz.ntmps13
 go_wp2_with fail
 go_ret2
 exact ⟨rfl, rfl⟩
theorem sendShut (s : List UInt8) (X : Nat) (own drawn peer : List UInt8) (dials : Bool) (key okey : List UInt8) (oc : Int) (ikey : List UInt8) (ic : Int) (nx : Value) (w : World) (hX : SesAt w X own drawn peer dials false false key okey oc ikey ic nx) :
  Calls Tryz.prog 13 #[.pointer (some ⟨X, 0, none⟩), .string (bs s)] w fun e w' => e = .returned (.tuple #[.string (bs []), .int .i64 4]) ∧ w = w' := by
 have x0 := blk_cell hX
 clear hX
 go_enter Tryz.func13, Tryz.ntmps13
 go_wp2_with fail
 go_ret2
 exact ⟨rfl, rfl⟩
theorem sendLong (s : List UInt8) (hs : 12000 < s.length) (X : Nat) (own drawn peer : List UInt8) (dials : Bool) (key okey : List UInt8) (oc : Int) (ikey : List UInt8) (ic : Int) (nx : Value) (w : World) (hX : SesAt w X own drawn peer dials true false key okey oc ikey ic nx) :
  Calls Tryz.prog 13 #[.pointer (some ⟨X, 0, none⟩), .string (bs s)] w fun e w' => e = .returned (.tuple #[.string (bs []), .int .i64 3]) ∧ w = w' := by
 have x0 := blk_cell hX
 have hi : (12000 : Int) < s.length := by omega
 clear hX
 go_enter Tryz.func13, Tryz.ntmps13
 go_wp2_with fail
 go_ret2
 exact ⟨rfl, rfl⟩
def SendPost (X : Nat) (own drawn peer : List UInt8) (dials : Bool) (key okey : List UInt8) (oc : Nat) (ikey : List UInt8) (ic : Int) (nx : Value) (w : World) (r : List UInt8 × Int) (e : Ending) (w' : World) : Prop :=
 GL [X] w w' ∧ if r.2 = 0 then e = .returned (.tuple #[.string (bs r.1), .int .i64 0]) ∧ SesAt w' X own drawn peer dials true false key (onM okey oc).1 ((onM okey oc).2 : Nat) ikey ic nx
  else e = .returned (.tuple #[.string (bs []), .int .i64 3]) ∧ SesAt w' X own drawn peer dials true false key okey oc ikey ic nx
theorem sendOpen (s : List UInt8) (hs : s.length ≤ 12000) (X : Nat) (own drawn peer : List UInt8) (dials : Bool) (key okey : List UInt8) (oc : Nat) (ikey : List UInt8) (ic : Int) (nx : Value) (hoc : oc ≤ 99) (hok : okey.length ≤ 9000000000000000000) (w : World) (hX : SesAt w X own drawn peer dials true false key okey oc ikey ic nx) (hXg : gN ≤ X) (hG : GOk w) :
  Calls Tryz.prog 13 #[.pointer (some ⟨X, 0, none⟩), .string (bs s)] w (SendPost X own drawn peer dials key okey oc ikey ic nx w (makeM okey oc s)) := by
 obtain ⟨m, g, hm⟩ : ∃ m g, makeM okey oc s = (m, g) := ⟨_, _, rfl⟩
 have HM := Lib.hid hm
 have HG := Lib.hid hG
 have HX := Lib.hid hX
 have hi : ¬ (12000 : Int) < s.length := by omega
 have x0 := blk_cell hX
 have x1 := blk_free hX
 have x2 := blk_lt hX
 clear hm hG hX
 rw [HM.out]
 by_cases h : g = 0
 · subst h
   go_enter Tryz.func13, Tryz.ntmps13
   go_wp2_with fail
   refine (sMake okey oc s hok om_ om_ _ HG.out).mono ?_
   rintro e w1 ⟨rfl, hb1⟩
   rw [HM.out]
   have HX1 := Lib.hid (blk_below HX.out hb1 (blk_lt HX.out))
   have HG1 := Lib.hid (gok_below HG.out hb1)
   go_wp2_with fail
   refine (sOnOut X own drawn peer dials true false key okey oc ikey ic nx hok hoc _ HX1.out hXg HG1.out).mono ?_
   rintro e w2 ⟨rfl, hx2, hl2⟩
   have HX2 := Lib.hid hx2
   clear hx2
   go_wp2_with fail
   go_ret2
   refine ⟨gl_step hl2 (gl_below hb1 (gl_refl _ _)) si_, ?_⟩
   rw [if_pos rfl]
   exact ⟨rfl, HX2.out⟩
 · have b1 : (g != 0) = true := by simpa using h
   have H := Lib.hid h
   clear h
   go_enter Tryz.func13, Tryz.ntmps13
   go_wp2_with fail
   refine (sMake okey oc s hok om_ om_ _ HG.out).mono ?_
   rintro e w1 ⟨rfl, hb1⟩
   rw [HM.out]
   have HX1 := Lib.hid (blk_below HX.out hb1 (blk_lt HX.out))
   go_wp2_with fail
   go_ret2
   refine ⟨gl_below hb1 (gl_refl _ _), ?_⟩
   rw [if_neg H.out]
   exact ⟨rfl, HX1.out⟩
theorem openNil (w : World) : Calls Tryz.prog 15 #[.pointer none] w fun e w' => e = .returned (.bool false) ∧ w = w' := by
 go_enter Tryz.func15, Tryz.ntmps15
 go_wp2_with fail
 go_ret
 exact ⟨rfl, rfl⟩
theorem openAt (X : Nat) (own drawn peer : List UInt8) (dials : Bool) (key okey : List UInt8) (oc : Int) (ikey : List UInt8) (ic : Int) (nx : Value) (opn closed : Bool) (w : World) (hX : SesAt w X own drawn peer dials opn closed key okey oc ikey ic nx) :
  Calls Tryz.prog 15 #[.pointer (some ⟨X, 0, none⟩)] w fun e w' => e = .returned (.bool (opn && !closed)) ∧ w = w' := by
 have x0 := blk_cell hX
 clear hX
 cases opn <;> cases closed
 all_goals
  go_enter Tryz.func15, Tryz.ntmps15
  go_wp2_with fail
  go_ret
  exact ⟨rfl, rfl⟩
theorem peerNil (w : World) : Calls Tryz.prog 16 #[.pointer none] w fun e w' => e = .returned (.string (bs [])) ∧ w = w' := by
 go_enter Tryz.func16, Tryz.ntmps16
 go_wp2_with fail
 go_ret
 exact ⟨rfl, rfl⟩
theorem peerAt (X : Nat) (own drawn peer : List UInt8) (dials : Bool) (key okey : List UInt8) (oc : Int) (ikey : List UInt8) (ic : Int) (nx : Value) (opn closed : Bool) (w : World) (hX : SesAt w X own drawn peer dials opn closed key okey oc ikey ic nx) :
  Calls Tryz.prog 16 #[.pointer (some ⟨X, 0, none⟩)] w fun e w' => e = .returned (.string (bs peer)) ∧ w = w' := by
 have x0 := blk_cell hX
 clear hX
 go_enter Tryz.func16, Tryz.ntmps16
 go_wp2_with fail
 go_ret
 exact ⟨rfl, rfl⟩
theorem closeNil (w : World) : Calls Tryz.prog 14 #[.pointer none] w fun e w' => e = .returned (.tuple #[]) ∧ w = w' := by
 go_enter Tryz.func14, Tryz.ntmps14
 go_wp2_with fail
 go_end0
 exact ⟨rfl, rfl⟩
theorem closeAt (X : Nat) (own drawn peer : List UInt8) (dials : Bool) (key okey : List UInt8) (oc : Int) (ikey : List UInt8) (ic : Int) (nx : Value) (opn closed : Bool) (w : World) (hX : SesAt w X own drawn peer dials opn closed key okey oc ikey ic nx) :
  Calls Tryz.prog 14 #[.pointer (some ⟨X, 0, none⟩)] w fun e w' => e = .returned (.tuple #[]) ∧ SesAt w' X own drawn peer dials opn true key okey oc ikey ic nx ∧ GL [X] w w' := by
 have x0 := blk_cell hX
 have x1 := blk_free hX
 have HX := Lib.hid hX
 clear hX
 go_enter Tryz.func14, Tryz.ntmps14
 go_wp2_with fail
 go_end0
 exact ⟨rfl, blk_set HX.out 5 _, gl_seti si_ (gl_refl _ _) _⟩
end Go.Proofs.YtaaiaahkakkleaaGreatDoor
-- SesT
namespace Go.Proofs.YtaaiaahkakkleaaGreatDoor
theorem less_eq (x : List UInt8) : ∀ y : List UInt8, Op.bytesLess x y = decide (x < y) := by
 induction x with
 | nil => intro y; cases y <;> simp [Op.bytesLess]
 | cons a x ih =>
   intro y
   cases y with
   | nil => simp [Op.bytesLess]
   | cons b y =>
     rw [Op.bytesLess, ih y, Bool.eq_iff_iff]
     by_cases h1 : a < b <;> by_cases h2 : a = b <;> simp [List.cons_lt_cons_iff, h1, h2]
theorem rt_tuple_at {d : Nat} {ls : List (List UInt8)} (hn : ls.length ≤ 32) (h : ∀ a ∈ ls, RtD d a) (hd : d + 1 ≤ 64) (hl : (tupL ls).length ≤ 16384) : ∃ s, rt (tupL ls) = some s ∧ s.op = 84 ∧ s.kids = ls := by
 obtain ⟨dp, h1⟩ := rdx_tuple d ls hn h
 refine ⟨⟨84, 1 + ((Lib.decDigits ls.length).length + 1) + (cat ls).length, dp + 1, 0, [], ls⟩, ?_, rfl, rfl⟩
 unfold rt
 rw [if_pos hl, show rd 64 (tupL ls) = _ from rd_mono _ 64 _ _ hd h1]
 simp [tupL]
 omega
theorem dec1 (n : Nat) (h : n < 10) : (Lib.decDigits n).length = 1 := by rw [Lib.decDigits_length, Lib.nDigits_small h]
theorem q_tup2 {d n m : Nat} {a b : List UInt8} (ha : Q d n a) (hb : Q d m b) : Q (d + 1) (n + m + 3) (tupL [a, b]) := by
 refine ⟨rtD_tuple d [a, b] si_ (by intro x hx; simp at hx; rcases hx with rfl | rfl; exact ha.1; exact hb.1), ?_⟩
 have h1 := ha.2
 have h2 := hb.2
 have h3 := dec1 2 om_
 simp [tupL, cat, h3]
 omega
theorem tupleT2_at {d n m : Nat} {a b : List UInt8} (ha : Q d n a) (hb : Q d m b) (hd : d + 1 ≤ 64) (hl : n + m + 3 ≤ 16384) : tupleT [a, b] = (tupL [a, b], 0) := by
 unfold tupleT
 rw [if_neg si_, if_pos (by simp [q_right ha om_ om_, q_right hb om_ om_])]
 exact made_ok (q_right (q_tup2 ha hb) hd hl)
theorem oneT_at {d n : Nat} {c : UInt8} {a : List UInt8} (hc : arity c = some 1) (hf : fitsB c [a] = true) (ha : Q d n a) (hd : d + 1 ≤ 64) (hl : n + 1 ≤ 16384) : oneT c a = (c :: a, 0) := by
 unfold oneT
 rw [if_pos (q_right ha om_ om_)]
 exact made_ok (q_right (q_one hc hf ha) hd hl)
def hashL (a b : List UInt8) : List UInt8 := 72 :: tupL [a, b]
theorem hashM_at {d n m : Nat} {a b : List UInt8} (ha : Q d n a) (hb : Q d m b) (hd : d + 2 ≤ 64) (hl : n + m + 4 ≤ 16384) : hashM 0 a b = (hashL a b, 0) ∧ Q (d + 2) (n + m + 4) (hashL a b) := by
 have h1 := tupleT2_at ha hb om_ om_
 have h2 := oneT_at (c := 72) de_ (by rfl) (q_tup2 ha hb) om_ om_
 refine ⟨?_, q_one de_ (by rfl) (q_tup2 ha hb)⟩
 unfold hashM
 rw [h1]
 simp only [h2, mkE, if_true]
 rfl
theorem q_boxE : Q 1 3 boxE := by
 have h : (116 :: (Lib.decDigits ([] : List UInt8).length ++ 58 :: [])) = boxE := by decide +kernel
 refine ⟨?_, by decide⟩
 rw [← h]
 exact rtD_text [] 0 si_
def actL (p k : List UInt8) : List UInt8 := tupL [p, 66 :: (k ++ boxE)]
theorem actM_at {d n m : Nat} {p k : List UInt8} (hp : Q (d + 1) n p) (hk : Q d m k) (h1 : 1 ≤ d) (hd : d + 2 ≤ 64) (hl : n + m + 7 ≤ 16384) : actM 0 p k = (actL p k, 0) ∧ Q (d + 2) (n + m + 7) (actL p k) := by
 have hb := q_mono q_boxE h1 (Nat.le_refl _)
 have h2 := twoT_at (c := 66) de_ (by rfl) hk hb om_ om_
 have h3 := q_two (c := 66) de_ (by rfl) hk hb
 have h4 := tupleT2_at hp h3 om_ om_
 refine ⟨?_, q_mono (q_tup2 hp h3) (Nat.le_refl _) om_⟩
 unfold actM
 rw [h2]
 simp only [h4, mkE, if_true]
 rfl
theorem childM_at {d n : Nat} {k lb : List UInt8} (hk : Q d n k) (hlb : lb.length ≤ 100) (h1 : 1 ≤ d) (hd : d + 1 ≤ 64) (hl : n + 130 ≤ 16384) : childM 0 k lb = (68 :: (k ++ textL lb), 0) ∧ Q (d + 1) (n + lb.length + 23) (68 :: (k ++ textL lb)) := by
 have ht := textT_ok lb om_
 have hq := q_mono (q_text lb om_) h1 (Nat.le_refl _)
 have h2 := twoT_at (c := 68) de_ (by rfl) hk hq om_ om_
 refine ⟨?_, q_mono (q_two (c := 68) de_ (by rfl) hk hq) (Nat.le_refl _) om_⟩
 unfold childM
 rw [ht]
 simp only [h2, mkE, if_true]
def agreeL (a b : List UInt8) : List UInt8 := if Op.bytesLess b a = true then 88 :: (b ++ a) else 88 :: (a ++ b)
theorem agreeL_comm (a b : List UInt8) : agreeL a b = agreeL b a := by
 unfold agreeL
 simp only [less_eq, decide_eq_true_eq]
 by_cases h1 : b < a
 · rw [if_pos h1, if_neg (List.lt_asymm h1)]
 · by_cases h2 : a < b
   · rw [if_neg h1, if_pos h2]
   · have : a = b := List.le_antisymm (List.not_lt.1 h1) (List.not_lt.1 h2)
     subst this
     rfl
theorem rt_one_at {d n : Nat} {c : UInt8} {a : List UInt8} (hc : arity c = some 1) (hf : fitsB c [a] = true) (ha : Q d n a) (hd : d + 1 ≤ 64) (hl : n + 1 ≤ 16384) : ∃ s, rt (c :: a) = some s ∧ s.op = c ∧ s.kids = [a] := by
 have hq := q_one hc hf ha
 have hr := q_right hq hd hl
 obtain ⟨s, hs⟩ := Option.isSome_iff_exists.1 (show (rt (c :: a)).isSome = true from hr)
 have ho : s.op = c := head_op hs
 obtain ⟨b, hb, _, _⟩ := rt_one_kid hs (by rw [ho]; exact hc)
 refine ⟨s, hs, ho, ?_⟩
 -- the part is the whole rest
 obtain ⟨dp, hk⟩ := kidsBy_cat d [a] [] (by intro x hx; simp at hx; subst hx; exact ha.1)
 have e : cat [a] = a := by simp [cat]
 rw [List.append_nil, e] at hk
 have h1 : c ≠ 110 := by rintro rfl; simp [arity] at hc
 have h2 : c ≠ 116 := by rintro rfl; simp [arity] at hc
 have h3 : c ≠ 84 := by rintro rfl; simp [arity] at hc
 have hrd : rd (d + 1) (c :: a) = some ⟨c, 1 + 0 + a.length, dp + 1, 0, [], [a]⟩ := by
  simp only [rd]
  rw [if_neg h1, if_neg h2, show cnt c a = some (1, 0) by simp [cnt, h3, hc]]
  simp only [List.drop_zero]
  rw [show ([a] : List (List UInt8)).length = 1 from rfl] at hk
  rw [hk]
  simp only
  rw [if_pos hf]
 have h64 := rd_mono _ 64 _ _ hd hrd
 have := (rt_rd hs).1
 rw [h64] at this
 rw [← Option.some.inj this]
theorem head_name (n : Nat) : (head (nameL n)).toNat = 110 := rfl
theorem q_pname (n : Nat) (h : n ≤ 9223372036854775807) : Q 2 26 (80 :: nameL n) := q_pub (q_name n h) (by rw [head_name]; decide) (by rw [head_name]; decide)
theorem plain_at {d n : Nat} {x : List UInt8} (h : Q d n x) (h1 : (head x).toNat ≠ 86) (h2 : (head x).toNat ≠ 75) (hd : d + 1 ≤ 64) (hn : n + 1 ≤ 16384) : plainB (80 :: x) = true := by
 have hf : fitsB 80 [x] = true := by
  simp only [fitsB, if_pos, List.getD_cons_zero, Bool.and_eq_true, bne_iff_ne, ne_eq, ← UInt8.toNat_inj, UInt8.reduceToNat]
  exact ⟨h1, h2⟩
 obtain ⟨s, hs, ho, _⟩ := rt_one_at (c := 80) de_ hf h hd hn
 unfold plainB
 rw [hs]
 simp [ho]
theorem secret_name (n : Nat) (h : n ≤ 9223372036854775807) : secretB (nameL n) = (80 :: nameL n, true) := by
 have h1 := pubT_plain (q_name n h) (by rw [head_name]; decide) (by rw [head_name]; decide) om_ om_
 have h2 := plain_at (q_name n h) (by rw [head_name]; decide) (by rw [head_name]; decide) om_ om_
 unfold secretB
 rw [h1]
 simp [h2]
theorem agree_name (a b : Nat) (ha : a ≤ 9223372036854775807) (hb : b ≤ 9223372036854775807) : agreeM 0 (nameL a) (80 :: nameL b) = (agreeL (nameL a) (nameL b), 0) ∧ Q 2 51 (agreeL (nameL a) (nameL b)) := by
 have qa := q_name a ha
 have qb := q_name b hb
 have hf : fitsB 80 [nameL b] = true := by rfl
 obtain ⟨s, hs, ho, hk⟩ := rt_one_at (c := 80) de_ hf qb om_ om_
 have hu : agreeT (nameL a) (80 :: nameL b) = if Op.bytesLess (nameL b) (nameL a) = true then twoT 88 (nameL b) (nameL a) else twoT 88 (nameL a) (nameL b) := by
  unfold agreeT
  rw [hs]
  simp [ho, hk]
 unfold agreeM
 rw [hu]
 unfold agreeL
 by_cases hl : Op.bytesLess (nameL b) (nameL a) = true
 · have hf2 : fitsB 88 [nameL b, nameL a] = true := by simp [fitsB, leB, hl]
   have h2 := twoT_at (c := 88) de_ hf2 qb qa om_ om_
   rw [if_pos hl, if_pos hl, h2]
   exact ⟨rfl, q_mono (q_two de_ hf2 qb qa) om_ om_⟩
 · have hf2 : fitsB 88 [nameL a, nameL b] = true := by
    simp only [fitsB, leB]
    simp only [less_eq, decide_eq_true_eq] at hl ⊢
    by_cases h3 : nameL a < nameL b
    · simp [h3]
    · have : nameL a = nameL b := List.le_antisymm (List.not_lt.1 hl) (List.not_lt.1 h3)
      simp [this]
   have h2 := twoT_at (c := 88) de_ hf2 qa qb om_ om_
   rw [if_neg hl, if_neg hl, h2]
   exact ⟨rfl, q_mono (q_two de_ hf2 qa qb) om_ om_⟩
theorem first_act {d n m : Nat} {p k : List UInt8} (hp : Q (d + 1) n p) (hk : Q d m k) (h1 : 1 ≤ d) (hd : d + 2 ≤ 64) (hl : n + m + 7 ≤ 16384) (hpl : plainB p = true) : firstB (actL p k) = (p, true) := by
 have hb := q_mono q_boxE h1 (Nat.le_refl _)
 have h3 := q_two (c := 66) de_ (by rfl) hk hb
 obtain ⟨s, hs, ho, hkk⟩ := rt_tuple_at (d := d + 1) (ls := [p, 66 :: (k ++ boxE)]) si_ (by intro x hx; simp at hx; rcases hx with rfl | rfl; exact hp.1; exact h3.1) om_ (by have := (q_tup2 hp h3).2; omega)
 unfold firstB
 rw [show rt (actL p k) = some s from hs]
 simp [ho, hkk, hpl]
theorem unbox_at {d n m : Nat} {k x : List UInt8} (hk : Q d n k) (hx : Q d m x) (hd : d + 1 ≤ 64) (hl : n + m + 1 ≤ 16384) : unboxT k (66 :: (k ++ x)) = (x, true) := by
 obtain ⟨s, hs, ho, hkk⟩ := rt_two_at (c := 66) de_ (by rfl) hk hx hd hl
 unfold unboxT
 rw [hs]
 simp [ho, hkk]
end Go.Proofs.YtaaiaahkakkleaaGreatDoor
-- SesU
namespace Go.Proofs.YtaaiaahkakkleaaGreatDoor
structure Hsk (i e s f : Nat) (k1 k2 a1 a2 a3 d l : List UInt8) : Prop where
 dial : dialM (nameL i) (nameL e) (80 :: nameL s) = ((k1, a1), 0)
 so : secretB (nameL s) = (80 :: nameL s, true)
 sf : secretB (nameL f) = (80 :: nameL f, true)
 one : oneM (nameL s) (nameL f) a1 = some (k2, a2)
 two : twoM (nameL i) (nameL e) k1 a2 = (2, ((d, l), a3))
 three : threeM (nameL f) k2 a3 = (2, ((d, l), 80 :: nameL i))
 qd : Q 9 300 d
 ql : Q 9 300 l
 lk1 : k1.length ≤ 1000
 lk2 : k2.length ≤ 1000
 la1 : a1.length ≤ 1000
 la2 : a2.length ≤ 1000
 la3 : a3.length ≤ 1000
 e1 : a1 = actL (80 :: nameL e) (hashL (agreeL (nameL e) (nameL s)) (80 :: nameL s))
theorem hsk_is (i e s f : Nat) (hi : i ≤ 9223372036854775807) (he : e ≤ 9223372036854775807) (hs : s ≤ 9223372036854775807) (hf : f ≤ 9223372036854775807) :
  ∃ k1 k2 a1 a2 a3 d l, Hsk i e s f k1 k2 a1 a2 a3 d l := by
 have si := secret_name i hi
 have se := secret_name e he
 have ss := secret_name s hs
 have sf := secret_name f hf
 have qi := q_pname i hi
 have qe := q_pname e he
 have qs := q_pname s hs
 have qf := q_pname f hf
 have plp : ∀ n, n ≤ 9223372036854775807 → plainB (80 :: nameL n) = true := fun n hn => plain_at (q_name n hn) (by rw [head_name]; decide) (by rw [head_name]; decide) om_ om_
 obtain ⟨x1e, x1q⟩ := agree_name e s he hs
 obtain ⟨x1e', _⟩ := agree_name s e hs he
 rw [agreeL_comm (nameL s) (nameL e)] at x1e'
 obtain ⟨x2e, x2q⟩ := agree_name e f he hf
 obtain ⟨x2e', _⟩ := agree_name f e hf he
 rw [agreeL_comm (nameL f) (nameL e)] at x2e'
 obtain ⟨x3e, x3q⟩ := agree_name i f hi hf
 obtain ⟨x3e', _⟩ := agree_name f i hf hi
 rw [agreeL_comm (nameL f) (nameL i)] at x3e'
 have E1 : agreeL (nameL e) (nameL s) = agreeL (nameL e) (nameL s) := rfl
 generalize hx1 : agreeL (nameL e) (nameL s) = x1 at *
 generalize agreeL (nameL e) (nameL f) = x2 at *
 generalize agreeL (nameL i) (nameL f) = x3 at *
 obtain ⟨h1, q1⟩ := hashM_at x1q qs om_ om_
 obtain ⟨h2, q2⟩ := hashM_at q1 (q_mono x2q (show 2 ≤ 4 by omega) (Nat.le_refl _)) om_ om_
 obtain ⟨h3, q3⟩ := hashM_at q2 (q_mono x3q (show 2 ≤ 6 by omega) (Nat.le_refl _)) om_ om_
 obtain ⟨c1, w1⟩ := actM_at (q_mono qe (show 2 ≤ 4 + 1 by omega) (Nat.le_refl _)) q1 om_ om_ om_
 obtain ⟨c2, w2⟩ := actM_at (q_mono qf (show 2 ≤ 6 + 1 by omega) (Nat.le_refl _)) q2 om_ om_ om_
 obtain ⟨c3, w3⟩ := actM_at (q_mono qi (show 2 ≤ 8 + 1 by omega) (Nat.le_refl _)) q3 om_ om_ om_
 have f1 := first_act (q_mono qe (show 2 ≤ 4 + 1 by omega) (Nat.le_refl _)) q1 om_ om_ om_ (plp e he)
 have f2 := first_act (q_mono qf (show 2 ≤ 6 + 1 by omega) (Nat.le_refl _)) q2 om_ om_ om_ (plp f hf)
 have f3 := first_act (q_mono qi (show 2 ≤ 8 + 1 by omega) (Nat.le_refl _)) q3 om_ om_ om_ (plp i hi)
 obtain ⟨m1, u1⟩ := childM_at (lb := lDial) q3 de_ om_ om_ om_
 obtain ⟨m2, u2⟩ := childM_at (lb := lListen) q3 de_ om_ om_ om_
 generalize hk1 : hashL x1 (80 :: nameL s) = k1 at *
 generalize hashL k1 x2 = k2 at *
 generalize hashL k2 x3 = k3 at *
 generalize ha1 : actL (80 :: nameL e) k1 = a1 at *
 generalize actL (80 :: nameL f) k2 = a2 at *
 generalize actL (80 :: nameL i) k3 = a3 at *
 generalize 68 :: (k3 ++ textL lDial) = d at *
 generalize 68 :: (k3 ++ textL lListen) = l at *
 have hbox := twoT_at (c := 66) de_ (by rfl) (q_mono q2 (show 6 ≤ 10 by omega) (Nat.le_refl _)) w3 om_ om_
 have qbox := q_two (c := 66) de_ (by rfl) (q_mono q2 (show 6 ≤ 10 by omega) (Nat.le_refl _)) w3
 have hun := unbox_at (q_mono q2 (show 6 ≤ 10 by omega) (Nat.le_refl _)) w3 om_ om_
 have hop : opensM 0 k3 = ((d, l), 0) := by
  unfold opensM
  rw [m1]
  simp only [m2]
 refine ⟨k1, k2, a1, a2, 66 :: (k2 ++ a3), d, l, ⟨?_, ss, sf, ?_, ?_, ?_, q_mono u1 om_ de_, q_mono u2 om_ de_, ?_, ?_, ?_, ?_, ?_, ?_⟩⟩
 · unfold dialM
   rw [si, se, plp s hs, if_neg si_]
   simp only [x1e, h1, c1]
   rfl
 · unfold oneM
   rw [f1, if_neg si_]
   simp only [ss, sf, x1e', h1, x2e', h2, c1, c2]
   rw [if_neg si_]
 · unfold twoM
   rw [f2, if_neg si_]
   simp only [si, x2e, h2, x3e, h3, c2, c3, hbox, mkE, if_true, hop]
   rw [if_neg si_, if_neg si_]
 · unfold threeM
   rw [hun]
   simp only [f3, x3e', h3, c3, hop]
   rw [if_neg si_, if_neg si_, if_neg si_]
 · have := q1.2; omega
 · have := q2.2; omega
 · have := w1.2; omega
 · have := w2.2; omega
 · have := qbox.2; omega
 · rw [hx1, hk1, ha1]
/-! A frame. -/
theorem rt_text_at (s : List UInt8) (h : s.length ≤ 4096) : ∃ x, rt (textL s) = some x ∧ x.op = 116 ∧ x.text = s := by
 have hn := num_dec 58 de_ s.length s om_
 have hl := textL_len s h
 refine ⟨⟨116, 1 + ((Lib.decDigits s.length).length + 1) + s.length, 1, s.length, s, []⟩, ?_, rfl, rfl⟩
 have h64 : rd 64 (textL s) = some ⟨116, 1 + ((Lib.decDigits s.length).length + 1) + s.length, 1, s.length, s, []⟩ := by
  simp only [textL, rd]
  rw [if_neg de_, if_pos de_, hn]
  simp only
  rw [if_neg so_]
  have e : (Lib.decDigits s.length ++ 58 :: s).drop ((Lib.decDigits s.length).length + 1) = s := by
   rw [show Lib.decDigits s.length ++ 58 :: s = (Lib.decDigits s.length ++ [58]) ++ s by simp]
   rw [List.drop_left' si_]
  rw [e, List.take_length]
 unfold rt
 rw [if_pos om_, h64]
 simp [textL]
 omega
theorem textsM_at : ∀ (ps : List (List UInt8)), (∀ p ∈ ps, p.length ≤ 4096) → textsM (ps.map textL) = some ps.flatten
 | [], _ => rfl
 | p :: ps, h => by
   obtain ⟨x, hx, ho, ht⟩ := rt_text_at p (h p si_)
   have ih := textsM_at ps (fun q hq => h q (by simp [hq]))
   simp only [List.map_cons, textsM, hx, ho, ih, ht]
   simp
theorem pieces_flat : ∀ (n : Nat) (s : List UInt8), s.length ≤ n → (pieces n s).flatten = s
 | 0, s, h => by
   have : s = [] := List.length_eq_zero_iff.1 om_
   subst this
   rfl
 | n + 1, s, h => by
   by_cases hs : s = []
   · subst hs; simp [pieces]
   · have hl : 1 ≤ s.length := by
      cases s with
      | nil => exact absurd rfl hs
      | cons _ _ => simp
     simp only [pieces, if_neg hs, List.flatten_cons]
     rw [pieces_flat n (s.drop 4096) so_, List.take_append_drop]
theorem frame_at {d n : Nat} {key x : List UInt8} {c : Nat} (hk : Q d n key) (h1 : 2 ≤ d) (hd : d + 1 ≤ 64) (hn : n ≤ 3000) (hc : c ≤ 99) (hx : x.length ≤ 4000) :
  ∃ fr, makeM key c x = (fr, 0) ∧ readM key c fr = some x ∧ fr.length ≤ 16384 := by
 have hdl : (Lib.decDigits c).length ≤ 20 := dec_len20 c om_
 have hq1 := q_text (Lib.decDigits c) om_
 have hpl : (pieces x.length x).length ≤ 1 := by
  match hx' : x.length with
  | 0 => simp [pieces]
  | m + 1 =>
    have hd0 : x.drop 4096 = [] := List.drop_of_length_le om_
    simp only [pieces, hd0]
    split
    · simp
    · cases m <;> simp [pieces]
 have hfl : (frameL c x).length ≤ 2 := by simp [frameL]; omega
 have hall : ∀ a ∈ frameL c x, Q 1 4022 a := by
  intro a ha
  simp only [frameL, List.mem_cons, List.mem_map] at ha
  rcases ha with rfl | ⟨p, hp, rfl⟩
  · exact q_mono hq1 (Nat.le_refl _) om_
  · have hpe : p.length ≤ x.length := by
     have h2 := pieces_flat x.length x (Nat.le_refl _)
     have h3 : p.length ≤ (pieces x.length x).flatten.length := by
      have := List.sublist_flatten_of_mem hp
      exact this.length_le
     rw [h2] at h3
     exact h3
    exact q_mono (q_text p om_) (Nat.le_refl _) om_
 have hcat : (tupL (frameL c x)).length ≤ 9000 := by
  have h3 := dec1 (frameL c x).length om_
  simp only [tupL, List.length_cons, List.length_append, h3]
  match hfr : frameL c x, hfl, hall with
  | [], _, _ => simp [cat]
  | [a], _, hall => have := (hall a si_).2; simp [cat]; omega
  | [a, b], _, hall => have h5 := (hall a si_).2; have h6 := (hall b si_).2; simp [cat]; omega
  | _ :: _ :: _ :: _, h, _ => simp at h
 have qt : Q 2 9000 (tupL (frameL c x)) := ⟨rtD_tuple 1 (frameL c x) om_ (fun a ha => (hall a ha).1), hcat⟩
 have htt : tupleT (frameL c x) = (tupL (frameL c x), 0) := by
  unfold tupleT
  rw [if_neg om_, if_pos (List.all_eq_true.2 fun a ha => q_right (hall a ha) om_ om_)]
  exact made_ok (q_right qt om_ om_)
 have qtd := q_mono qt h1 (Nat.le_refl _)
 have hb := twoT_at (c := 66) de_ (by rfl) hk qtd hd om_
 have hu := unbox_at hk qtd hd om_
 have hmk : makeM key c x = (66 :: (key ++ tupL (frameL c x)), 0) := by
  unfold makeM
  rw [htt]
  simp only [hb, mkE, if_true]
 obtain ⟨s, hs, ho, hkk⟩ := rt_tuple_at (d := 1) (ls := frameL c x) om_ (fun a ha => (hall a ha).1) om_ om_
 refine ⟨66 :: (key ++ tupL (frameL c x)), hmk, ?_, ?_⟩
 · have hrd := readM_kids (c := c) hu hs (by rw [ho]; decide) (hkk.trans rfl)
   rw [hrd, textsM_at _ (pieces_each _ _), pieces_flat _ _ (Nat.le_refl _)]
   simp only [hmk]
   rw [if_neg si_]
 · have h5 := hk.2
   have h6 := qtd.2
   simp; omega
theorem onM_at {d n : Nat} {key : List UInt8} {c : Nat} (hk : Q d n key) (h1 : 1 ≤ d) (hd : d + 1 ≤ 64) (hn : n + 130 ≤ 16384) (hc : c ≤ 99) :
  (onM key c).2 ≤ 99 ∧ (c = 99 → Q (d + 1) (n + 30) (onM key c).1 ∧ (onM key c).2 = 0) ∧ (c ≠ 99 → (onM key c) = (key, c + 1)) := by
 obtain ⟨m, u⟩ := childM_at (lb := lNext) hk de_ h1 hd hn
 by_cases h : c = 99
 · subst h
   simp only [onM, m]
   refine ⟨by simp, fun _ => ⟨q_mono u (Nat.le_refl _) (by simp [lNext]), rfl⟩, fun h => absurd rfl h⟩
 · simp only [onM]
   rw [if_neg om_]
   exact ⟨by simp; omega, fun h' => absurd h' h, fun _ => rfl⟩
end Go.Proofs.YtaaiaahkakkleaaGreatDoor
