/- A session and the document's, side by side: they hear, send, tell alike. -/
import Derived.Test.YtaaiaahkakkleaaGreatDoorPlA
set_option linter.unusedSimpArgs false
set_option linter.unusedVariables false
namespace Go.Proofs.YtaaiaahkakkleaaGreatDoor
open Go.RowKit
def St0 (w : World) (X Y : Nat) : Prop := ∃ (own drawn kx okx ikx k1 k2 ok ik : List UInt8) (ocx icx oc ic : Int), own.length ≤ 9000000000000000000 ∧ drawn.length ≤ 9000000000000000000 ∧ k1.length ≤ 9000000000000000000 ∧ k2.length ≤ 9000000000000000000 ∧
 SesAt w X own drawn [] false false false kx okx ocx ikx icx (.func (.func 43) #[.pointer (some ⟨X, 0, none⟩)] #[]) ∧ RefAt w Y own drawn [] 0 false false k1 k2 ok oc ik ic
def St1 (w : World) (X Y : Nat) : Prop := ∃ (own drawn peer kx okx ikx k2 ok ik : List UInt8) (dials : Bool) (ocx icx oc ic : Int), own.length ≤ 9000000000000000000 ∧ drawn.length ≤ 9000000000000000000 ∧ kx.length ≤ 9000000000000000000 ∧ k2.length ≤ 9000000000000000000 ∧
 SesAt w X own drawn peer dials false false kx okx ocx ikx icx (.func (.func 48) #[.pointer (some ⟨X, 0, none⟩)] #[]) ∧ RefAt w Y own drawn peer 1 dials false kx k2 ok oc ik ic
def St2 (w : World) (X Y : Nat) : Prop := ∃ (own drawn peer kx okx ikx k1 ok ik : List UInt8) (dials : Bool) (ocx icx oc ic : Int), own.length ≤ 9000000000000000000 ∧ drawn.length ≤ 9000000000000000000 ∧ kx.length ≤ 9000000000000000000 ∧ k1.length ≤ 9000000000000000000 ∧
 SesAt w X own drawn peer dials false false kx okx ocx ikx icx (.func (.func 67) #[.pointer (some ⟨X, 0, none⟩)] #[]) ∧ RefAt w Y own drawn peer 2 dials false k1 kx ok oc ik ic
def St3 (w : World) (X Y : Nat) : Prop := ∃ (own drawn peer kx ok ik k1 k2 : List UInt8) (dials : Bool) (oc ic : Nat), ok.length ≤ 16384 ∧ ik.length ≤ 16384 ∧ oc ≤ 99 ∧ ic ≤ 99 ∧
 SesAt w X own drawn peer dials true false kx ok oc ik ic (.func (.func 96) #[.pointer (some ⟨X, 0, none⟩)] #[]) ∧ RefAt w Y own drawn peer 3 dials false k1 k2 ok oc ik ic
def StD (w : World) (X Y : Nat) : Prop := ∃ (peer : List UInt8), DeadAt w X peer ∧ ∃ (own drawn : List UInt8) (st : Int) (dials : Bool) (k1 k2 ok : List UInt8) (oc : Int) (ik : List UInt8) (ic : Int), RefAt w Y own drawn peer st dials true k1 k2 ok oc ik ic
def SideAt (w : World) (X Y : Nat) : Prop := St0 w X Y ∨ St1 w X Y ∨ St2 w X Y ∨ St3 w X Y ∨ StD w X Y
theorem dead_gl {w w' : World} {X : Nat} {peer : List UInt8} {rs : List Nat} (h : DeadAt w X peer) (hg : GL rs w w') (hr : X ∉ rs) : DeadAt w' X peer := by
 obtain ⟨a, b, c, d, e, f, g, i, j, k, h⟩ := h
 exact ⟨a, b, c, d, e, f, g, i, j, k, blk_gl h hg hr⟩
theorem side_gl {w w' : World} {X Y : Nat} {rs : List Nat} (h : SideAt w X Y) (hg : GL rs w w') (hx : X ∉ rs) (hy : Y ∉ rs) : SideAt w' X Y := by
 rcases h with h | h | h | h | h
 · obtain ⟨a1, a2, a3, a4, a5, a6, a7, a8, a9, b1, b2, b3, b4, c1, c2, c3, c4, h1, h2⟩ := h
   exact .inl ⟨a1, a2, a3, a4, a5, a6, a7, a8, a9, b1, b2, b3, b4, c1, c2, c3, c4, blk_gl h1 hg hx, blk_gl h2 hg hy⟩
 · obtain ⟨a1, a2, a3, a4, a5, a6, a7, a8, a9, b0, b1, b2, b3, b4, c1, c2, c3, c4, h1, h2⟩ := h
   exact .inr (.inl ⟨a1, a2, a3, a4, a5, a6, a7, a8, a9, b0, b1, b2, b3, b4, c1, c2, c3, c4, blk_gl h1 hg hx, blk_gl h2 hg hy⟩)
 · obtain ⟨a1, a2, a3, a4, a5, a6, a7, a8, a9, b0, b1, b2, b3, b4, c1, c2, c3, c4, h1, h2⟩ := h
   exact .inr (.inr (.inl ⟨a1, a2, a3, a4, a5, a6, a7, a8, a9, b0, b1, b2, b3, b4, c1, c2, c3, c4, blk_gl h1 hg hx, blk_gl h2 hg hy⟩))
 · obtain ⟨a1, a2, a3, a4, a5, a6, a7, a8, b0, b1, b2, c1, c2, c3, c4, h1, h2⟩ := h
   exact .inr (.inr (.inr (.inl ⟨a1, a2, a3, a4, a5, a6, a7, a8, b0, b1, b2, c1, c2, c3, c4, blk_gl h1 hg hx, blk_gl h2 hg hy⟩)))
 · obtain ⟨peer, h1, a1, a2, a3, a4, a5, a6, a7, a8, a9, b1, h2⟩ := h
   exact .inr (.inr (.inr (.inr ⟨peer, dead_gl h1 hg hx, a1, a2, a3, a4, a5, a6, a7, a8, a9, b1, blk_gl h2 hg hy⟩)))
theorem opensM_lens (fe : Int) (k3 : List UInt8) : (opensM fe k3).1.1.length ≤ 16384 ∧ (opensM fe k3).1.2.length ≤ 16384 := opensM_len fe k3
theorem twoM_len (own drawn key t : List UInt8) : (twoM own drawn key t).2.1.1.length ≤ 16384 ∧ (twoM own drawn key t).2.1.2.length ≤ 16384 ∧ (twoM own drawn key t).2.2.length ≤ 16384 := by
 unfold twoM
 split
 · simp
 · simp only
   split
   · simp
   · split
     · exact ⟨(opensM_lens _ _).1, (opensM_lens _ _).2, by simp⟩
     · exact ⟨(opensM_lens _ _).1, (opensM_lens _ _).2, twoT_len _ _ _⟩
theorem threeM_len (drawn key t : List UInt8) : (threeM drawn key t).2.1.1.length ≤ 16384 ∧ (threeM drawn key t).2.1.2.length ≤ 16384 := by
 unfold threeM
 split
 · simp
 · simp only
   split
   · simp
   · split
     · exact ⟨(opensM_lens _ _).1, (opensM_lens _ _).2⟩
     · exact ⟨(opensM_lens _ _).1, (opensM_lens _ _).2⟩
theorem oneM_len {own drawn t k say : List UInt8} (h : oneM own drawn t = some (k, say)) : k.length ≤ 16384 ∧ say.length ≤ 16384 := by
 unfold oneM at h
 split at h
 · cases h
 · simp only at h
   split at h
   · cases h
   · injection h with h
     injection h with h1 h2
     rw [← h1, ← h2]
     exact ⟨hashM_len _ _ _, actM_len _ _ _⟩
theorem onM_cnt (key : List UInt8) (c : Nat) (h : c ≤ 99) : (onM key c).2 ≤ 99 := by
 unfold onM
 split <;> simp <;> omega
theorem ite_len {b : Bool} {x y : List UInt8} {n : Nat} (hx : x.length ≤ n) (hy : y.length ≤ n) : (if b = true then x else y).length ≤ n := by split <;> assumption
def HearsP (t : List UInt8) (X Y : Nat) (w : World) : Prop :=
 ∃ (say tx : List UInt8) (is : Bool) (er : Int) (Mid : World → Prop), say.length ≤ 16384 ∧ (er == 0) = decide (er = 0) ∧
  Calls Tryz.prog 12 #[.pointer (some ⟨X, 0, none⟩), .string (bs t)] w (fun e w1 => e = .returned (.tuple #[.agg #[.string (bs say), .string (bs tx), .bool is], .int .i64 er]) ∧ GL [X] w w1 ∧ Mid w1) ∧
  ∀ w1 w2, Mid w1 → GL [] w1 w2 → Calls Tryz.prog 54 #[.pointer (some ⟨Y, 0, none⟩), .string (bs t)] w2 (fun e w3 => e = .returned (.tuple #[.string (bs say), .string (bs tx), .bool is, .int .i64 er]) ∧ GL [Y] w2 w3 ∧ SideAt w3 X Y)
theorem sideHear (t : List UInt8) (ht : t.length ≤ 9000000000000000000) (X Y : Nat) (hXY : X ≠ Y) (w : World) (hS : SideAt w X Y) (hXg : gN ≤ X) (hG : GOk w) : HearsP t X Y w := by
 have hyx : Y ∉ [X] := by simp; omega
 have hxy : X ∉ [Y] := by simp; omega
 rcases hS with h | h | h | h | h
 · obtain ⟨own, drawn, kx, okx, ikx, k1, k2, ok, ik, ocx, icx, oc, ic, l1, l2, l3, l4, hX, hY⟩ := h
   have hx := hearOne t X own drawn [] false kx okx ocx ikx icx l1 l2 ht w hX hXg hG
   have hy := fun W (h : RefAt W Y own drawn [] 0 false false k1 k2 ok oc ik ic) => qHear0 t Y own drawn [] false k1 k2 ok oc ik ic l1 l2 l3 l4 ht W h
   rw [one_same] at hy
   cases hr : oneM own drawn t with
   | none =>
     rw [hr] at hx hy
     refine ⟨[], [], false, 210, fun w1 => DeadAt w1 X [] ∧ RefAt w1 Y own drawn [] 0 false false k1 k2 ok oc ik ic, by simp, rfl, hx.mono ?_, fun w1 w2 hm hg => (hy w2 (blk_gl hm.2 hg si_)).mono ?_⟩
     · rintro e w1 ⟨hl, rfl, hd⟩
       exact ⟨rfl, hl, hd, blk_gl hY hl hyx⟩
     · rintro e w3 ⟨hl, rfl, hq⟩
       exact ⟨rfl, hl, .inr (.inr (.inr (.inr ⟨[], dead_gl (dead_gl hm.1 hg si_) hl hxy, _, _, _, _, _, _, _, _, _, _, hq⟩)))⟩
   | some r =>
     obtain ⟨k, say⟩ := r
     obtain ⟨lk, lsay⟩ := oneM_len hr
     rw [hr] at hx hy
     refine ⟨say, [], false, 0, fun w1 => SesAt w1 X own drawn [] false false false k okx ocx ikx icx (.func (.func 67) #[.pointer (some ⟨X, 0, none⟩)] #[]) ∧ RefAt w1 Y own drawn [] 0 false false k1 k2 ok oc ik ic, lsay, rfl, hx.mono ?_, fun w1 w2 hm hg => (hy w2 (blk_gl hm.2 hg si_)).mono ?_⟩
     · rintro e w1 ⟨hl, rfl, hd⟩
       exact ⟨rfl, hl, hd, blk_gl hY hl hyx⟩
     · rintro e w3 ⟨hl, rfl, q, lq, hq⟩
       exact ⟨rfl, hl, .inr (.inr (.inl ⟨own, drawn, [], k, okx, ikx, q, ok, ik, false, ocx, icx, oc, ic, l1, l2, by omega, by omega, blk_gl (blk_gl hm.1 hg si_) hl hxy, hq⟩))⟩
 · obtain ⟨own, drawn, peer, kx, okx, ikx, k2, ok, ik, dials, ocx, icx, oc, ic, l1, l2, l3, l4, hX, hY⟩ := h
   have hx := hearTwo t X own drawn peer dials kx okx ocx ikx icx l1 l2 l3 ht w hX hXg hG
   have hy := fun W (h : RefAt W Y own drawn peer 1 dials false kx k2 ok oc ik ic) => qHear1 t Y own drawn peer dials kx k2 ok oc ik ic l1 l2 l3 l4 ht W h
   rw [two_same] at hy
   obtain ⟨m1, m2, m3⟩ := twoM_len own drawn kx t
   generalize twoM own drawn kx t = r at *
   by_cases h2 : r.1 = 2
   · rw [if_pos h2] at hy
     refine ⟨r.2.2, [], false, 0, fun w1 => SesAt w1 X own drawn peer dials true false kx (if dials = true then r.2.1.1 else r.2.1.2) 0 (if dials = true then r.2.1.2 else r.2.1.1) 0 (.func (.func 96) #[.pointer (some ⟨X, 0, none⟩)] #[]) ∧ RefAt w1 Y own drawn peer 1 dials false kx k2 ok oc ik ic, m3, rfl, hx.mono ?_, fun w1 w2 hm hg => (hy w2 (blk_gl hm.2 hg si_)).mono ?_⟩
     · rintro e w1 ⟨hl, hp⟩
       rw [if_pos h2] at hp
       exact ⟨hp.1, hl, hp.2, blk_gl hY hl hyx⟩
     · rintro e w3 ⟨hl, rfl, q, hq⟩
       exact ⟨rfl, hl, .inr (.inr (.inr (.inl ⟨own, drawn, peer, kx, _, _, _, q, dials, 0, 0, ite_len m1 m2, ite_len m2 m1, by omega, by omega, blk_gl (blk_gl hm.1 hg si_) hl hxy, hq⟩)))⟩
   · rw [if_neg h2] at hy
     refine ⟨[], [], false, 210, fun w1 => DeadAt w1 X peer ∧ RefAt w1 Y own drawn peer 1 dials false kx k2 ok oc ik ic, by simp, rfl, hx.mono ?_, fun w1 w2 hm hg => (hy w2 (blk_gl hm.2 hg si_)).mono ?_⟩
     · rintro e w1 ⟨hl, hp⟩
       rw [if_neg h2] at hp
       exact ⟨hp.1, hl, hp.2, blk_gl hY hl hyx⟩
     · rintro e w3 ⟨hl, rfl, hq⟩
       exact ⟨rfl, hl, .inr (.inr (.inr (.inr ⟨peer, dead_gl (dead_gl hm.1 hg si_) hl hxy, _, _, _, _, _, _, _, _, _, _, hq⟩)))⟩
 · obtain ⟨own, drawn, peer, kx, okx, ikx, k1, ok, ik, dials, ocx, icx, oc, ic, l1, l2, l3, l4, hX, hY⟩ := h
   have hx := hearThree t X own drawn peer dials kx okx ocx ikx icx l1 l2 l3 ht w hX hXg hG
   have hy := fun W (h : RefAt W Y own drawn peer 2 dials false k1 kx ok oc ik ic) => qHear2 t Y own drawn peer dials k1 kx ok oc ik ic l1 l2 l4 l3 ht W h
   rw [three_same] at hy
   obtain ⟨m1, m2⟩ := threeM_len drawn kx t
   generalize threeM drawn kx t = r at *
   by_cases h2 : r.1 = 2
   · rw [if_pos h2] at hy
     refine ⟨[], [], false, 0, fun w1 => SesAt w1 X own drawn r.2.2 dials true false kx (if dials = true then r.2.1.1 else r.2.1.2) 0 (if dials = true then r.2.1.2 else r.2.1.1) 0 (.func (.func 96) #[.pointer (some ⟨X, 0, none⟩)] #[]) ∧ RefAt w1 Y own drawn peer 2 dials false k1 kx ok oc ik ic, by simp, rfl, hx.mono ?_, fun w1 w2 hm hg => (hy w2 (blk_gl hm.2 hg si_)).mono ?_⟩
     · rintro e w1 ⟨hl, hp⟩
       rw [if_pos h2] at hp
       exact ⟨hp.1, hl, hp.2, blk_gl hY hl hyx⟩
     · rintro e w3 ⟨hl, rfl, hq⟩
       exact ⟨rfl, hl, .inr (.inr (.inr (.inl ⟨own, drawn, r.2.2, kx, _, _, k1, kx, dials, 0, 0, ite_len m1 m2, ite_len m2 m1, by omega, by omega, blk_gl (blk_gl hm.1 hg si_) hl hxy, hq⟩)))⟩
   · rw [if_neg h2] at hy
     refine ⟨[], [], false, 210, fun w1 => DeadAt w1 X peer ∧ RefAt w1 Y own drawn peer 2 dials false k1 kx ok oc ik ic, by simp, rfl, hx.mono ?_, fun w1 w2 hm hg => (hy w2 (blk_gl hm.2 hg si_)).mono ?_⟩
     · rintro e w1 ⟨hl, hp⟩
       rw [if_neg h2] at hp
       exact ⟨hp.1, hl, hp.2, blk_gl hY hl hyx⟩
     · rintro e w3 ⟨hl, rfl, hq⟩
       exact ⟨rfl, hl, .inr (.inr (.inr (.inr ⟨peer, dead_gl (dead_gl hm.1 hg si_) hl hxy, _, _, _, _, _, _, _, _, _, _, hq⟩)))⟩
 · obtain ⟨own, drawn, peer, kx, ok, ik, k1, k2, dials, oc, ic, l1, l2, l3, l4, hX, hY⟩ := h
   have hx := hearFrame t X own drawn peer dials kx ok oc ik ic ht om_ l4 w hX hXg hG
   have hy := fun W (h : RefAt W Y own drawn peer 3 dials false k1 k2 ok oc ik ic) => qHear3 t Y own drawn peer dials k1 k2 ok oc ik ic om_ l4 ht W h
   cases hr : readM ik ic t with
   | none =>
     rw [hr] at hx hy
     refine ⟨[], [], false, 211, fun w1 => DeadAt w1 X peer ∧ RefAt w1 Y own drawn peer 3 dials false k1 k2 ok oc ik ic, by simp, rfl, hx.mono ?_, fun w1 w2 hm hg => (hy w2 (blk_gl hm.2 hg si_)).mono ?_⟩
     · rintro e w1 ⟨hl, rfl, hd⟩
       exact ⟨rfl, hl, hd, blk_gl hY hl hyx⟩
     · rintro e w3 ⟨hl, rfl, hq⟩
       exact ⟨rfl, hl, .inr (.inr (.inr (.inr ⟨peer, dead_gl (dead_gl hm.1 hg si_) hl hxy, _, _, _, _, _, _, _, _, _, _, hq⟩)))⟩
   | some x =>
     rw [hr] at hx hy
     refine ⟨[], x, true, 0, fun w1 => SesAt w1 X own drawn peer dials true false kx ok oc (onM ik ic).1 ((onM ik ic).2 : Nat) (.func (.func 96) #[.pointer (some ⟨X, 0, none⟩)] #[]) ∧ RefAt w1 Y own drawn peer 3 dials false k1 k2 ok oc ik ic, by simp, rfl, hx.mono ?_, fun w1 w2 hm hg => (hy w2 (blk_gl hm.2 hg si_)).mono ?_⟩
     · rintro e w1 ⟨hl, rfl, hd⟩
       exact ⟨rfl, hl, hd, blk_gl hY hl hyx⟩
     · rintro e w3 ⟨hl, rfl, hq⟩
       exact ⟨rfl, hl, .inr (.inr (.inr (.inl ⟨own, drawn, peer, kx, ok, _, k1, k2, dials, oc, _, l1, onM_len ik ic l2, l3, onM_cnt ik ic l4, blk_gl (blk_gl hm.1 hg si_) hl hxy, hq⟩)))⟩
 · obtain ⟨peer, hX, own, drawn, st, dials, k1, k2, ok, oc, ik, ic, hY⟩ := h
   refine ⟨[], [], false, 212, fun w1 => DeadAt w1 X peer ∧ RefAt w1 Y own drawn peer st dials true k1 k2 ok oc ik ic, by simp, rfl, (hearDead t X peer w hX).mono ?_, fun w1 w2 hm hg => (qHearDead t Y own drawn peer st dials true k1 k2 ok oc ik ic w2 (blk_gl hm.2 hg si_)).mono ?_⟩
   · rintro e w1 ⟨rfl, hb⟩
     have hl : GL [X] w w1 := gl_below hb (gl_refl _ _)
     exact ⟨rfl, hl, dead_gl hX (gl_below hb (gl_refl ([] : List Nat) _)) si_, blk_gl hY hl hyx⟩
   · rintro e w3 ⟨rfl, rfl⟩
     exact ⟨rfl, gl_refl _ _, .inr (.inr (.inr (.inr ⟨peer, dead_gl hm.1 hg si_, _, _, _, _, _, _, _, _, _, _, blk_gl hm.2 hg si_⟩)))⟩
def SendsP (s : List UInt8) (X Y : Nat) (w : World) : Prop :=
 ∃ (fr : List UInt8) (er : Int) (Mid : World → Prop), fr.length ≤ 16384 ∧
  Calls Tryz.prog 13 #[.pointer (some ⟨X, 0, none⟩), .string (bs s)] w (fun e w1 => e = .returned (.tuple #[.string (bs fr), .int .i64 er]) ∧ GL [X] w w1 ∧ Mid w1) ∧
  ∀ w1 w2, Mid w1 → GL [] w1 w2 → Calls Tryz.prog 55 #[.pointer (some ⟨Y, 0, none⟩), .string (bs s)] w2 (fun e w3 => e = .returned (.tuple #[.string (bs fr), .int .i64 er]) ∧ GL [Y] w2 w3 ∧ SideAt w3 X Y)
theorem sideSend (s : List UInt8) (hs : s.length ≤ 1000000) (X Y : Nat) (hXY : X ≠ Y) (w : World) (hS : SideAt w X Y) (hXg : gN ≤ X) (hG : GOk w) : SendsP s X Y w := by
 have hyx : Y ∉ [X] := by simp; omega
 have hxy : X ∉ [Y] := by simp; omega
 have early : ∀ (own drawn peer : List UInt8) (dials dy : Bool) (kx okx : List UInt8) (ocx : Int) (ikx : List UInt8) (icx : Int) (nx : Value) (st : Int) (k1 k2 ok : List UInt8) (oc : Int) (ik : List UInt8) (ic : Int), (st != 3) = true → SesAt w X own drawn peer dials false false kx okx ocx ikx icx nx → RefAt w Y own drawn peer st dy false k1 k2 ok oc ik ic → SideAt w X Y → SendsP s X Y w := by
  intro own drawn peer dials dy kx okx ocx ikx icx nx st k1 k2 ok oc ik ic hst hX hY hS
  refine ⟨[], 4, fun w1 => SideAt w1 X Y ∧ RefAt w1 Y own drawn peer st dy false k1 k2 ok oc ik ic, by simp, (sendShut s X own drawn peer dials kx okx ocx ikx icx nx w hX).mono ?_, fun w1 w2 hm hg => (qSendEarly s Y own drawn peer st dy false k1 k2 ok oc ik ic hst w2 (blk_gl hm.2 hg si_)).mono ?_⟩
  · rintro e w1 ⟨rfl, rfl⟩
    exact ⟨rfl, gl_refl _ _, hS, hY⟩
  · rintro e w3 ⟨rfl, rfl⟩
    exact ⟨rfl, gl_refl _ _, side_gl hm.1 hg si_ si_⟩
 have hS0 := hS
 rcases hS with h | h | h | h | h
 · obtain ⟨own, drawn, kx, okx, ikx, k1, k2, ok, ik, ocx, icx, oc, ic, l1, l2, l3, l4, hX, hY⟩ := h
   exact early _ _ _ _ _ _ _ _ _ _ _ 0 _ _ _ _ _ _ rfl hX hY hS0
 · obtain ⟨own, drawn, peer, kx, okx, ikx, k2, ok, ik, dials, ocx, icx, oc, ic, l1, l2, l3, l4, hX, hY⟩ := h
   exact early _ _ _ _ _ _ _ _ _ _ _ 1 _ _ _ _ _ _ rfl hX hY hS0
 · obtain ⟨own, drawn, peer, kx, okx, ikx, k1, ok, ik, dials, ocx, icx, oc, ic, l1, l2, l3, l4, hX, hY⟩ := h
   exact early _ _ _ _ _ _ _ _ _ _ _ 2 _ _ _ _ _ _ rfl hX hY hS0
 · obtain ⟨own, drawn, peer, kx, ok, ik, k1, k2, dials, oc, ic, l1, l2, l3, l4, hX, hY⟩ := h
   have hy := fun W (h : RefAt W Y own drawn peer 3 dials false k1 k2 ok oc ik ic) => qSendOpen s om_ Y own drawn peer dials k1 k2 ok oc ik ic om_ l3 W h
   by_cases hl : s.length ≤ 12000
   · have hx := sendOpen s hl X own drawn peer dials kx ok oc ik ic (.func (.func 96) #[.pointer (some ⟨X, 0, none⟩)] #[]) l3 om_ w hX hXg hG
     have lfr := makeM_len ok oc s
     obtain ⟨fr, g, hf⟩ : ∃ x g, makeM ok oc s = (x, g) := ⟨_, _, rfl⟩
     rw [hf] at hx lfr
     by_cases hg0 : g = 0
     · subst hg0
       refine ⟨fr, 0, fun w1 => SesAt w1 X own drawn peer dials true false kx (onM ok oc).1 ((onM ok oc).2 : Nat) ik ic (.func (.func 96) #[.pointer (some ⟨X, 0, none⟩)] #[]) ∧ RefAt w1 Y own drawn peer 3 dials false k1 k2 ok oc ik ic, lfr, hx.mono ?_, fun w1 w2 hm hg => (hy w2 (blk_gl hm.2 hg si_)).mono ?_⟩
       · rintro e w1 ⟨hg, hp⟩
         rw [if_pos rfl] at hp
         exact ⟨hp.1, hg, hp.2, blk_gl hY hg hyx⟩
       · rintro e w3 ⟨hg3, hp⟩
         rw [hf, if_pos ⟨hl, rfl⟩] at hp
         exact ⟨hp.1, hg3, .inr (.inr (.inr (.inl ⟨own, drawn, peer, kx, _, ik, k1, k2, dials, _, ic, onM_len ok oc l1, l2, onM_cnt ok oc l3, l4, blk_gl (blk_gl hm.1 hg si_) hg3 hxy, hp.2⟩)))⟩
     · refine ⟨[], 3, fun w1 => SesAt w1 X own drawn peer dials true false kx ok oc ik ic (.func (.func 96) #[.pointer (some ⟨X, 0, none⟩)] #[]) ∧ RefAt w1 Y own drawn peer 3 dials false k1 k2 ok oc ik ic, by simp, hx.mono ?_, fun w1 w2 hm hg => (hy w2 (blk_gl hm.2 hg si_)).mono ?_⟩
       · rintro e w1 ⟨hg, hp⟩
         rw [if_neg hg0] at hp
         exact ⟨hp.1, hg, hp.2, blk_gl hY hg hyx⟩
       · rintro e w3 ⟨hg3, hp⟩
         rw [hf, if_neg (fun h => hg0 h.2)] at hp
         exact ⟨hp.1, hg3, .inr (.inr (.inr (.inl ⟨own, drawn, peer, kx, ok, ik, k1, k2, dials, oc, ic, l1, l2, l3, l4, blk_gl (blk_gl hm.1 hg si_) hg3 hxy, hp.2⟩)))⟩
   · refine ⟨[], 3, fun w1 => SesAt w1 X own drawn peer dials true false kx ok oc ik ic (.func (.func 96) #[.pointer (some ⟨X, 0, none⟩)] #[]) ∧ RefAt w1 Y own drawn peer 3 dials false k1 k2 ok oc ik ic, by simp, (sendLong s om_ X own drawn peer dials kx ok oc ik ic (.func (.func 96) #[.pointer (some ⟨X, 0, none⟩)] #[]) w hX).mono ?_, fun w1 w2 hm hg => (hy w2 (blk_gl hm.2 hg si_)).mono ?_⟩
     · rintro e w1 ⟨rfl, rfl⟩
       exact ⟨rfl, gl_refl _ _, hX, hY⟩
     · rintro e w3 ⟨hg3, hp⟩
       rw [if_neg (fun h => hl h.1)] at hp
       exact ⟨hp.1, hg3, .inr (.inr (.inr (.inl ⟨own, drawn, peer, kx, ok, ik, k1, k2, dials, oc, ic, l1, l2, l3, l4, blk_gl (blk_gl hm.1 hg si_) hg3 hxy, hp.2⟩)))⟩
 · obtain ⟨peer, hX, own, drawn, st, dials, k1, k2, ok, oc, ik, ic, hY⟩ := h
   refine ⟨[], 212, fun w1 => DeadAt w1 X peer ∧ RefAt w1 Y own drawn peer st dials true k1 k2 ok oc ik ic, by simp, (sendDead s X peer w hX).mono ?_, fun w1 w2 hm hg => (qSendDead s Y own drawn peer st dials true k1 k2 ok oc ik ic w2 (blk_gl hm.2 hg si_)).mono ?_⟩
   · rintro e w1 ⟨rfl, rfl⟩
     exact ⟨rfl, gl_refl _ _, hX, hY⟩
   · rintro e w3 ⟨rfl, rfl⟩
     exact ⟨rfl, gl_refl _ _, .inr (.inr (.inr (.inr ⟨peer, dead_gl hm.1 hg si_, _, _, _, _, _, _, _, _, _, _, blk_gl hm.2 hg si_⟩)))⟩
theorem sideTells {w : World} {X Y : Nat} (hS : SideAt w X Y) : ∃ (op : Bool) (peer own drawn : List UInt8) (st : Int) (dials cl : Bool) (k1 k2 ok : List UInt8) (oc : Int) (ik : List UInt8) (ic : Int), op = (decide (st = 3) && !cl) ∧ RefAt w Y own drawn peer st dials cl k1 k2 ok oc ik ic ∧
  Calls Tryz.prog 15 #[.pointer (some ⟨X, 0, none⟩)] w (fun e w' => e = .returned (.bool op) ∧ w = w') ∧ Calls Tryz.prog 16 #[.pointer (some ⟨X, 0, none⟩)] w (fun e w' => e = .returned (.string (bs peer)) ∧ w = w') := by
 rcases hS with h | h | h | h | h
 · obtain ⟨own, drawn, kx, okx, ikx, k1, k2, ok, ik, ocx, icx, oc, ic, l1, l2, l3, l4, hX, hY⟩ := h
   exact ⟨false, [], own, drawn, 0, false, false, k1, k2, ok, oc, ik, ic, rfl, hY, openAt X _ _ _ _ _ _ _ _ _ _ false false w hX, peerAt X _ _ _ _ _ _ _ _ _ _ _ _ w hX⟩
 · obtain ⟨own, drawn, peer, kx, okx, ikx, k2, ok, ik, dials, ocx, icx, oc, ic, l1, l2, l3, l4, hX, hY⟩ := h
   exact ⟨false, peer, own, drawn, 1, dials, false, kx, k2, ok, oc, ik, ic, rfl, hY, openAt X _ _ _ _ _ _ _ _ _ _ false false w hX, peerAt X _ _ _ _ _ _ _ _ _ _ _ _ w hX⟩
 · obtain ⟨own, drawn, peer, kx, okx, ikx, k1, ok, ik, dials, ocx, icx, oc, ic, l1, l2, l3, l4, hX, hY⟩ := h
   exact ⟨false, peer, own, drawn, 2, dials, false, k1, kx, ok, oc, ik, ic, rfl, hY, openAt X _ _ _ _ _ _ _ _ _ _ false false w hX, peerAt X _ _ _ _ _ _ _ _ _ _ _ _ w hX⟩
 · obtain ⟨own, drawn, peer, kx, ok, ik, k1, k2, dials, oc, ic, l1, l2, l3, l4, hX, hY⟩ := h
   exact ⟨true, peer, own, drawn, 3, dials, false, k1, k2, ok, oc, ik, ic, rfl, hY, openAt X _ _ _ _ _ _ _ _ _ _ true false w hX, peerAt X _ _ _ _ _ _ _ _ _ _ _ _ w hX⟩
 · obtain ⟨peer, ⟨a, b, c, d, e, f, g, i, j, k, hX⟩, own, drawn, st, dials, k1, k2, ok, oc, ik, ic, hY⟩ := h
   refine ⟨false, peer, own, drawn, st, dials, true, k1, k2, ok, oc, ik, ic, by simp, hY, ?_, peerAt X _ _ _ _ _ _ _ _ _ _ _ _ w hX⟩
   have := openAt X _ _ _ _ _ _ _ _ _ _ d true w hX
   rwa [Bool.not_true, Bool.and_false] at this
theorem sideClose {w : World} {X Y : Nat} (hXY : X ≠ Y) (hS : SideAt w X Y) : ∃ Mid : World → Prop, Calls Tryz.prog 14 #[.pointer (some ⟨X, 0, none⟩)] w (fun e w1 => e = .returned (.tuple #[]) ∧ GL [X] w w1 ∧ Mid w1) ∧
  ∀ w1, Mid w1 → (∃ (own drawn peer : List UInt8) (st : Int) (dials cl : Bool) (k1 k2 ok : List UInt8) (oc : Int) (ik : List UInt8) (ic : Int), RefAt w1 Y own drawn peer st dials cl k1 k2 ok oc ik ic) ∧ SideAt (w1.setCell ⟨Y, 5, none⟩ (.bool true)) X Y := by
 have hyx : Y ∉ [X] := by simp; omega
 have key : ∀ (own drawn peer : List UInt8) (dials : Bool) (kx okx : List UInt8) (ocx : Int) (ikx : List UInt8) (icx : Int) (nx : Value) (op cl : Bool) (st : Int) (dy cy : Bool) (k1 k2 ok : List UInt8) (oc : Int) (ik : List UInt8) (ic : Int) (ow2 dr2 : List UInt8), SesAt w X own drawn peer dials op cl kx okx ocx ikx icx nx → RefAt w Y ow2 dr2 peer st dy cy k1 k2 ok oc ik ic → ∃ Mid : World → Prop, Calls Tryz.prog 14 #[.pointer (some ⟨X, 0, none⟩)] w (fun e w1 => e = .returned (.tuple #[]) ∧ GL [X] w w1 ∧ Mid w1) ∧
  ∀ w1, Mid w1 → (∃ (own drawn peer : List UInt8) (st : Int) (dials cl : Bool) (k1 k2 ok : List UInt8) (oc : Int) (ik : List UInt8) (ic : Int), RefAt w1 Y own drawn peer st dials cl k1 k2 ok oc ik ic) ∧ SideAt (w1.setCell ⟨Y, 5, none⟩ (.bool true)) X Y := by
  intro own drawn peer dials kx okx ocx ikx icx nx op cl st dy cy k1 k2 ok oc ik ic ow2 dr2 hX hY
  refine ⟨fun w1 => SesAt w1 X own drawn peer dials op true kx okx ocx ikx icx nx ∧ RefAt w1 Y ow2 dr2 peer st dy cy k1 k2 ok oc ik ic, (closeAt X own drawn peer dials kx okx ocx ikx icx nx op cl w hX).mono ?_, fun w1 hm => ⟨⟨_, _, _, _, _, _, _, _, _, _, _, _, hm.2⟩, ?_⟩⟩
  · rintro e w1 ⟨rfl, hd, hg⟩
    exact ⟨rfl, hg, hd, blk_gl hY hg hyx⟩
  · exact .inr (.inr (.inr (.inr ⟨peer, ⟨_, _, _, _, _, _, _, _, _, _, blk_ne hm.1 (p := ⟨Y, 5, none⟩) so_ _⟩, _, _, _, _, _, _, _, _, _, _, refAt_closed hm.2 true⟩)))
 rcases hS with h | h | h | h | h
 · obtain ⟨own, drawn, kx, okx, ikx, k1, k2, ok, ik, ocx, icx, oc, ic, l1, l2, l3, l4, hX, hY⟩ := h
   exact key _ _ _ _ _ _ _ _ _ _ _ _ _ _ _ _ _ _ _ _ _ _ _ hX hY
 · obtain ⟨own, drawn, peer, kx, okx, ikx, k2, ok, ik, dials, ocx, icx, oc, ic, l1, l2, l3, l4, hX, hY⟩ := h
   exact key _ _ _ _ _ _ _ _ _ _ _ _ _ _ _ _ _ _ _ _ _ _ _ hX hY
 · obtain ⟨own, drawn, peer, kx, okx, ikx, k1, ok, ik, dials, ocx, icx, oc, ic, l1, l2, l3, l4, hX, hY⟩ := h
   exact key _ _ _ _ _ _ _ _ _ _ _ _ _ _ _ _ _ _ _ _ _ _ _ hX hY
 · obtain ⟨own, drawn, peer, kx, ok, ik, k1, k2, dials, oc, ic, l1, l2, l3, l4, hX, hY⟩ := h
   exact key _ _ _ _ _ _ _ _ _ _ _ _ _ _ _ _ _ _ _ _ _ _ _ hX hY
 · obtain ⟨peer, ⟨a, b, c, d, e, f, g, i, j, k, hX⟩, own, drawn, st, dials, k1, k2, ok, oc, ik, ic, hY⟩ := h
   exact key _ _ _ _ _ _ _ _ _ _ _ _ _ _ _ _ _ _ _ _ _ _ _ hX hY
end Go.Proofs.YtaaiaahkakkleaaGreatDoor
