/- The program's locks: read, kids and all. -/
import Derived.Test.YtiplnofaejpeoaaGreatDoorLockU
import Derived.Test.YtiplnofaejpeoaaGreatDoorLockT
import Derived.Maps.AppendAt
set_option maxRecDepth 100000
set_option maxHeartbeats 8000000
set_option linter.unusedSimpArgs false
set_option linter.unusedVariables false
namespace Go.Proofs.YtiplnofaejpeoaaGreatDoor
open Go.RowKit
def k0_ (w : World) : Nat := w.heap.size
theorem zaP_ {w : World} {b : Nat} (h : b < w.heap.size) (o : Obj) (j : Nat) : (w.alloc o).cell? ⟨b, j, none⟩ = w.cell? ⟨b, j, none⟩ := by
 simp only [World.cell?, Below.heap_alloc w o b h]
def SAt (w : World) (S : Nat) (s : List UInt8) : Prop := w.heap[S]? = some (.cells #[.string (bs s)] 9 (0, 0))
def RAt (w : World) (R : Nat) (r : Int) : Prop := w.heap[R]? = some (.cells #[.int .i64 r] 3 (0, 0))
def FAt (w : World) (F S R : Nat) : Prop := w.heap[F]? = some (.cells #[.func (.func 49) #[] #[.pointer (some ⟨S, 0, none⟩), .pointer (some ⟨R, 0, none⟩), .pointer (some ⟨F, 0, none⟩)]] 62 (0, 0))
def zaw_ (S R : Nat) (w : World) (o : Option (LT × List UInt8 × Nat)) (e : Ending) (w' : World) : Prop := GL [S, R] w w' ∧
 match o with
 | none => ∃ (k n : Int) (t : List UInt8) (ad : Option Addr) (m c : Nat), e = .returned (.tuple #[.agg #[.int .u8 k, .string (bs t), .int .i64 n, .slice ad m c], .bool false])
 | some (x, s, r) => ∃ v, e = .returned (.tuple #[v, .bool true]) ∧ y2_ (fun b => w.heap.size ≤ b) w' x v ∧ SAt w' S s ∧ RAt w' R r
theorem ze9_ : ∀ (f room : Nat) (s : List UInt8) (x : LT) (s' : List UInt8) (r : Nat), w2_ v4_ q6_ f room s = some (x, s', r) → s'.length ≤ s.length ∧ r < room
 | 0, _, _, _, _, _, h => by cases h
 | f + 1, room, [], _, _, _, h => by cases room <;> cases h
 | f + 1, 0, c :: q, _, _, _, h => by cases h
 | f + 1, room + 1, c :: q, x, s', r, h => by
   rw [w2_] at h
   split at h
   · split at h
     · cases h
     · rename_i t s2 hc
       simp only [Option.some.injEq, Prod.mk.injEq] at h
       obtain ⟨_, rfl, rfl⟩ := h
       have := congrArg List.length (zd3_ _ _ _ hc)
       simp at this ⊢
       omega
   · split at h
     · split at h
       · cases h
       · rename_i n s2 hc
         simp only [Option.some.injEq, Prod.mk.injEq] at h
         obtain ⟨_, rfl, rfl⟩ := h
         have := congrArg List.length (zaF_ hc).1
         simp at this ⊢
         omega
     · split at h
       · split at h
         · cases h
         · rename_i n s2 hc
           split at h
           · cases h
           · rename_i n2 _
             split at h
             · cases h
             · rename_i l s3 r3 hr
               simp only [Option.some.injEq, Prod.mk.injEq] at h
               obtain ⟨_, rfl, rfl⟩ := h
               have h1 := congrArg List.length (zaF_ hc).1
               have h2 := readRow_len f n2 room s2 l _ _ hr
               simp at h1 ⊢
               omega
       · cases h
where
 readRow_len (f : Nat) : ∀ (n room : Nat) (s : List UInt8) (l : List LT) (s' : List UInt8) (r : Nat), v8_ (w2_ v4_ q6_ f) n room s = some (l, s', r) → s'.length ≤ s.length ∧ r ≤ room
 | 0, room, s, l, s', r, h => by
   simp only [v8_, Option.some.injEq, Prod.mk.injEq] at h
   obtain ⟨_, rfl, rfl⟩ := h
   exact ⟨Nat.le_refl _, Nat.le_refl _⟩
 | n + 1, room, s, l, s', r, h => by
   rw [v8_] at h
   split at h
   · cases h
   · rename_i x s2 r2 hx
     split at h
     · cases h
     · rename_i l2 s3 r3 hl
       simp only [Option.some.injEq, Prod.mk.injEq] at h
       obtain ⟨_, rfl, rfl⟩ := h
       have h1 := ze9_ f room s x s2 r2 hx
       have h2 := readRow_len f n r2 s2 l2 _ _ hl
       omega
def zcB_ (k : Int) (tot : Option (List LT × List UInt8 × Nat)) : Option (LT × List UInt8 × Nat) := tot.map fun z => (.mk k [] 0 z.1, z.2.1, z.2.2)
def RdIH (f : Nat) : Prop := ∀ (S R F : Nat) (s : List UInt8) (room : Nat) (w : World), room < f → s.length ≤ 100000000000 → room ≤ 64 → S ≠ R → S ≠ F → R ≠ F → gN ≤ S → gN ≤ R → SAt w S s → RAt w R room → FAt w F S R → GOk w →
 Calls Tryz.prog 49 #[.pointer (some ⟨S, 0, none⟩), .pointer (some ⟨R, 0, none⟩), .pointer (some ⟨F, 0, none⟩)] w (zaw_ S R w (w2_ v4_ q6_ f room s))
theorem zhb_  (S R F : Nat) (w : World) (nSR : S ≠ R) (nSF : S ≠ F) (nRF : R ≠ F) (gnS : gN ≤ S) (gnR : gN ≤ R) (hS : SAt w S []) (hG : GOk w) :
  Calls Tryz.prog 49 #[.pointer (some ⟨S, 0, none⟩), .pointer (some ⟨R, 0, none⟩), .pointer (some ⟨F, 0, none⟩)] w (zaw_ S R w none) := by
 have HG0 := Lib.hid hG
 have nRS := nSR.symm
 have nFS := nSF.symm
 have nFR := nRF.symm
 have HS0 := Lib.hid hS
 have fa := z2_ HS0.out
 have fb := z5_ HS0.out
 have fl := z0_ HS0.out
 clear hS hG
 go_enter Tryz.func49, Tryz.ntmps49
 go_wp2
 refine bodyPost_ret (v := .tuple #[.agg #[.int .u8 0, .string (bs []), .int .i64 0, .slice none 0 0], .bool false]) (by simp [results, Tryz.results49, go_sem]) rfl ⟨gl_, _, _, _, _, _, _, rfl⟩
theorem zkP_ (c : UInt8) (r : List UInt8) (S R F : Nat) (w : World) (nSR : S ≠ R) (nSF : S ≠ F) (nRF : R ≠ F) (gnS : gN ≤ S) (gnR : gN ≤ R) (hS : SAt w S (c :: r)) (hR : RAt w R 0) (hG : GOk w) :
  Calls Tryz.prog 49 #[.pointer (some ⟨S, 0, none⟩), .pointer (some ⟨R, 0, none⟩), .pointer (some ⟨F, 0, none⟩)] w (zaw_ S R w none) := by
 have HG0 := Lib.hid hG
 have nRS := nSR.symm
 have nFS := nSF.symm
 have nFR := nRF.symm
 have HS0 := Lib.hid hS
 have HR0 := Lib.hid hR
 have fa := z2_ HS0.out
 have fb := z5_ HS0.out
 have fl := z0_ HS0.out
 have fc := z2_ HR0.out
 have fd := z5_ HR0.out
 have fm := z0_ HR0.out
 clear hS hR hG
 go_enter Tryz.func49, Tryz.ntmps49
 go_wp2
 refine bodyPost_ret (v := .tuple #[.agg #[.int .u8 0, .string (bs []), .int .i64 0, .slice none 0 0], .bool false]) (by simp [results, Tryz.results49, go_sem]) rfl ⟨gl_, _, _, _, _, _, _, rfl⟩
theorem zkQ_ (c : UInt8) (r : List UInt8) (rm : Nat) (S R F : Nat) (w : World) (nSR : S ≠ R) (nSF : S ≠ F) (nRF : R ≠ F) (gnS : gN ≤ S) (gnR : gN ≤ R) (hS : SAt w S (c :: r)) (hR : RAt w R ((rm : Int) + 1)) (hF : FAt w F S R) (hrl : r.length ≤ 100000000000) (hrm : (rm : Int) ≤ 1000) (hb0 : ((rm : Int) + 1 == 0) = false) (hix : Lib.indexByte [32, 115, 112, 97, 111, 38, 124] c = 0) (hG : GOk w) :
  Calls Tryz.prog 49 #[.pointer (some ⟨S, 0, none⟩), .pointer (some ⟨R, 0, none⟩), .pointer (some ⟨F, 0, none⟩)] w (zaw_ S R w none) := by
 have HG0 := Lib.hid hG
 have nRS := nSR.symm
 have nFS := nSF.symm
 have nFR := nRF.symm
 have HS0 := Lib.hid hS
 have HR0 := Lib.hid hR
 have HIX := Lib.hid hix
 clear hS hR hF hG hix
 go_enter Tryz.func49, Tryz.ntmps49
 have hg0 : GL [S, R] w w := z1_ _ _
 have hs0 : w.heap.size ≤ w.heap.size := Nat.le_refl _
 have fa1 := z2_ HS0.out
 have fb1 := z5_ HS0.out
 have fl1 := z0_ HS0.out
 have fa2 := z2_ HR0.out
 have fb2 := z5_ HR0.out
 have fl2 := z0_ HR0.out
 go_wp2_with fail
 clear fa1 fb1 fl1 fa2 fb2 fl2
 have HS1 := Lib.hid (y8_ HS0.out (p := ⟨R, 0, none⟩) sx_ (.int .i64 rm))
 have HG1 := Lib.hid (x4_ (rs := [R]) HG0.out (x6_ (z1_ _ _) (p := ⟨R, 0, none⟩) (.inl si_) (.int .i64 rm)) sx_)
 have hg1 : GL [S, R] w (w.setCell ⟨R, 0, none⟩ (.int .i64 rm)) := x6_ hg0 (by first | (left; simp; done) | (right; simp; omega)) _
 have HR1 : Hid (RAt (w.setCell ⟨R, 0, none⟩ (.int .i64 rm)) R rm) := (x7_ HR0.out 0 (.int .i64 rm))
 have HZ1 : Hid ((w.setCell ⟨R, 0, none⟩ (.int .i64 rm)).heap.size = w.heap.size) := by show _ = _; simp [World.setCell]
 generalize (w.setCell ⟨R, 0, none⟩ (.int .i64 rm)) = w1 at *
 have hs1 := hg1.size
 have hle : k0_ w ≤ w.heap.size ∧ w.heap.size ≤ k0_ w := ⟨Nat.le_refl _, Nat.le_refl _⟩
 have HS2 := Lib.hid (z8_ HS1.out zl_)
 have ltSRS : S < w.heap.size := by have := z0_ HS1.out; have := HZ1.out; omega
 have neSRS : S ≠ w.heap.size := by omega
 have neRSS : w.heap.size ≠ S := by omega
 have HR2 := Lib.hid (z8_ HR1.out zl_)
 have ltRRS : R < w.heap.size := by have := z0_ HR1.out; have := HZ1.out; omega
 have neRRS : R ≠ w.heap.size := by omega
 have neRSR : w.heap.size ≠ R := by omega
 have hZ_ := z3_ w1 zl_
 rw [HZ1.out] at hZ_
 have HRS2 := Lib.hid (hZ_)
 clear hZ_
 have HG2 := Lib.hid (y5_ HG1.out zl_)
 have hg2 := z6_ hg1 zl_
 have geRS : w.heap.size ≤ w.heap.size := by have := hg1.size; omega
 have gnRS : gN ≤ w.heap.size := by have := HG1.out.size; omega
 generalize (w1.alloc zl_) = w2 at *
 generalize w.heap.size = RS at *
 have hs2 := hg2.size
 have hRSw : w.heap.size ≤ RS := hle.1
 have hRSw2 : RS ≤ w.heap.size := hle.2
 refine (zas_ [32, 115, 112, 97, 111, 38, 124] _ c rfl _).mono ?_
 rintro e wq ⟨rfl, hwq⟩
 have hwq2 := hwq.symm
 subst hwq2
 rw [HIX.out]
 have fa3 := z2_ HS2.out
 have fb3 := z5_ HS2.out
 have fl3 := z0_ HS2.out
 have fa4 := z2_ HRS2.out
 have fb4 := z5_ HRS2.out
 have fl4 := z0_ HRS2.out
 have hgq := hg2
 go_wp2
 refine bodyPost_ret (v := .tuple #[.agg #[.int .u8 0, .string (bs []), .int .i64 0, .slice none 0 0], .bool false]) (by simp [results, Tryz.results49, go_sem, zaP_, fa3, fb3, fl3, fa4, fb4, fl4, neSRS, neRSS]) rfl ⟨gl_, _, _, _, _, _, _, rfl⟩
theorem zkR_ (c : UInt8) (r : List UInt8) (rm : Nat) (S R F : Nat) (w : World) (nSR : S ≠ R) (nSF : S ≠ F) (nRF : R ≠ F) (gnS : gN ≤ S) (gnR : gN ≤ R) (hS : SAt w S (c :: r)) (hR : RAt w R ((rm : Int) + 1)) (hF : FAt w F S R) (hrl : r.length ≤ 100000000000) (hrm : (rm : Int) ≤ 1000) (hb0 : ((rm : Int) + 1 == 0) = false) (hix : Lib.indexByte [32, 115, 112, 97, 111, 38, 124] c = -1) (hG : GOk w) :
  Calls Tryz.prog 49 #[.pointer (some ⟨S, 0, none⟩), .pointer (some ⟨R, 0, none⟩), .pointer (some ⟨F, 0, none⟩)] w (zaw_ S R w none) := by
 have HG0 := Lib.hid hG
 have nRS := nSR.symm
 have nFS := nSF.symm
 have nFR := nRF.symm
 have HS0 := Lib.hid hS
 have HR0 := Lib.hid hR
 have HIX := Lib.hid hix
 clear hS hR hF hG hix
 go_enter Tryz.func49, Tryz.ntmps49
 have hg0 : GL [S, R] w w := z1_ _ _
 have hs0 : w.heap.size ≤ w.heap.size := Nat.le_refl _
 have fa1 := z2_ HS0.out
 have fb1 := z5_ HS0.out
 have fl1 := z0_ HS0.out
 have fa2 := z2_ HR0.out
 have fb2 := z5_ HR0.out
 have fl2 := z0_ HR0.out
 go_wp2_with fail
 clear fa1 fb1 fl1 fa2 fb2 fl2
 have HS1 := Lib.hid (y8_ HS0.out (p := ⟨R, 0, none⟩) sx_ (.int .i64 rm))
 have HG1 := Lib.hid (x4_ (rs := [R]) HG0.out (x6_ (z1_ _ _) (p := ⟨R, 0, none⟩) (.inl si_) (.int .i64 rm)) sx_)
 have hg1 : GL [S, R] w (w.setCell ⟨R, 0, none⟩ (.int .i64 rm)) := x6_ hg0 (by first | (left; simp; done) | (right; simp; omega)) _
 have HR1 : Hid (RAt (w.setCell ⟨R, 0, none⟩ (.int .i64 rm)) R rm) := (x7_ HR0.out 0 (.int .i64 rm))
 have HZ1 : Hid ((w.setCell ⟨R, 0, none⟩ (.int .i64 rm)).heap.size = w.heap.size) := by show _ = _; simp [World.setCell]
 generalize (w.setCell ⟨R, 0, none⟩ (.int .i64 rm)) = w1 at *
 have hs1 := hg1.size
 have hle : k0_ w ≤ w.heap.size ∧ w.heap.size ≤ k0_ w := ⟨Nat.le_refl _, Nat.le_refl _⟩
 have HS2 := Lib.hid (z8_ HS1.out zl_)
 have ltSRS : S < w.heap.size := by have := z0_ HS1.out; have := HZ1.out; omega
 have neSRS : S ≠ w.heap.size := by omega
 have neRSS : w.heap.size ≠ S := by omega
 have HR2 := Lib.hid (z8_ HR1.out zl_)
 have ltRRS : R < w.heap.size := by have := z0_ HR1.out; have := HZ1.out; omega
 have neRRS : R ≠ w.heap.size := by omega
 have neRSR : w.heap.size ≠ R := by omega
 have hZ_ := z3_ w1 zl_
 rw [HZ1.out] at hZ_
 have HRS2 := Lib.hid (hZ_)
 clear hZ_
 have HG2 := Lib.hid (y5_ HG1.out zl_)
 have hg2 := z6_ hg1 zl_
 have geRS : w.heap.size ≤ w.heap.size := by have := hg1.size; omega
 have gnRS : gN ≤ w.heap.size := by have := HG1.out.size; omega
 generalize (w1.alloc zl_) = w2 at *
 generalize w.heap.size = RS at *
 have hs2 := hg2.size
 have hRSw : w.heap.size ≤ RS := hle.1
 have hRSw2 : RS ≤ w.heap.size := hle.2
 refine (zas_ [32, 115, 112, 97, 111, 38, 124] _ c rfl _).mono ?_
 rintro e wq ⟨rfl, hwq⟩
 have hwq2 := hwq.symm
 subst hwq2
 rw [HIX.out]
 have fa3 := z2_ HS2.out
 have fb3 := z5_ HS2.out
 have fl3 := z0_ HS2.out
 have fa4 := z2_ HRS2.out
 have fb4 := z5_ HRS2.out
 have fl4 := z0_ HRS2.out
 have hgq := hg2
 go_wp2
 refine bodyPost_ret (v := .tuple #[.agg #[.int .u8 0, .string (bs []), .int .i64 0, .slice none 0 0], .bool false]) (by simp [results, Tryz.results49, go_sem, zaP_, fa3, fb3, fl3, fa4, fb4, fl4, neSRS, neRSS]) rfl ⟨gl_, _, _, _, _, _, _, rfl⟩
theorem zkS_ (r : List UInt8) (rm : Nat) (S R F : Nat) (w : World) (nSR : S ≠ R) (nSF : S ≠ F) (nRF : R ≠ F) (gnS : gN ≤ S) (gnR : gN ≤ R) (hS : SAt w S (115 :: r)) (hR : RAt w R ((rm : Int) + 1)) (hF : FAt w F S R) (hrl : r.length ≤ 100000000000) (hrm : (rm : Int) ≤ 1000) (hb0 : ((rm : Int) + 1 == 0) = false) (hc : v4_ r = none) (hG : GOk w) :
  Calls Tryz.prog 49 #[.pointer (some ⟨S, 0, none⟩), .pointer (some ⟨R, 0, none⟩), .pointer (some ⟨F, 0, none⟩)] w (zaw_ S R w (none)) := by
 have HG0 := Lib.hid hG
 have nRS := nSR.symm
 have nFS := nSF.symm
 have nFR := nRF.symm
 have HV : Hid (zau_ r = .tuple #[.string (bs []), .string (bs []), .bool false]) := by show zau_ r = _; unfold zau_; rw [hc]
 have HS0 := Lib.hid hS
 have HR0 := Lib.hid hR
 have HF0 := Lib.hid hF
 clear hS hR hF hG
 go_enter Tryz.func49, Tryz.ntmps49
 have hg0 : GL [S, R] w w := z1_ _ _
 have hs0 : w.heap.size ≤ w.heap.size := Nat.le_refl _
 have fa1 := z2_ HS0.out
 have fb1 := z5_ HS0.out
 have fl1 := z0_ HS0.out
 have fa2 := z2_ HR0.out
 have fb2 := z5_ HR0.out
 have fl2 := z0_ HR0.out
 go_wp2_with fail
 clear fa1 fb1 fl1 fa2 fb2 fl2
 have HS1 := Lib.hid (y8_ HS0.out (p := ⟨R, 0, none⟩) sx_ (.int .i64 rm))
 have HF1 := Lib.hid (y8_ HF0.out (p := ⟨R, 0, none⟩) sx_ (.int .i64 rm))
 have HG1 := Lib.hid (x4_ (rs := [R]) HG0.out (x6_ (z1_ _ _) (p := ⟨R, 0, none⟩) (.inl si_) (.int .i64 rm)) sx_)
 have hg1 : GL [S, R] w (w.setCell ⟨R, 0, none⟩ (.int .i64 rm)) := x6_ hg0 (by first | (left; simp; done) | (right; simp; omega)) _
 have HR1 : Hid (RAt (w.setCell ⟨R, 0, none⟩ (.int .i64 rm)) R rm) := (x7_ HR0.out 0 (.int .i64 rm))
 have HZ1 : Hid ((w.setCell ⟨R, 0, none⟩ (.int .i64 rm)).heap.size = w.heap.size) := by show _ = _; simp [World.setCell]
 generalize (w.setCell ⟨R, 0, none⟩ (.int .i64 rm)) = w1 at *
 have hs1 := hg1.size
 have hle : k0_ w ≤ w.heap.size ∧ w.heap.size ≤ k0_ w := ⟨Nat.le_refl _, Nat.le_refl _⟩
 have HS2 := Lib.hid (z8_ HS1.out zl_)
 have ltSRS : S < w.heap.size := by have := z0_ HS1.out; have := HZ1.out; omega
 have neSRS : S ≠ w.heap.size := by omega
 have neRSS : w.heap.size ≠ S := by omega
 have HR2 := Lib.hid (z8_ HR1.out zl_)
 have ltRRS : R < w.heap.size := by have := z0_ HR1.out; have := HZ1.out; omega
 have neRRS : R ≠ w.heap.size := by omega
 have neRSR : w.heap.size ≠ R := by omega
 have HF2 := Lib.hid (z8_ HF1.out zl_)
 have ltFRS : F < w.heap.size := by have := z0_ HF1.out; have := HZ1.out; omega
 have neFRS : F ≠ w.heap.size := by omega
 have neRSF : w.heap.size ≠ F := by omega
 have hZ_ := z3_ w1 zl_
 rw [HZ1.out] at hZ_
 have HRS2 := Lib.hid (hZ_)
 clear hZ_
 have HG2 := Lib.hid (y5_ HG1.out zl_)
 have hg2 := z6_ hg1 zl_
 have geRS : w.heap.size ≤ w.heap.size := by have := hg1.size; omega
 have gnRS : gN ≤ w.heap.size := by have := HG1.out.size; omega
 generalize (w1.alloc zl_) = w2 at *
 generalize w.heap.size = RS at *
 have hs2 := hg2.size
 have hRSw : w.heap.size ≤ RS := hle.1
 have hRSw2 : RS ≤ w.heap.size := hle.2
 refine (zas_ [32, 115, 112, 97, 111, 38, 124] _ 115 rfl _).mono ?_
 rintro e wq ⟨rfl, hwq⟩
 have hwq2 := hwq.symm
 subst hwq2
 rw [show Lib.indexByte [32, 115, 112, 97, 111, 38, 124] 115 = 1 by decide]
 have fa3 := z2_ HS2.out
 have fb3 := z5_ HS2.out
 have fl3 := z0_ HS2.out
 go_wp2_with fail
 clear fa3 fb3 fl3
 have HR3 := Lib.hid (y8_ HR2.out (p := ⟨S, 0, none⟩) sx_ (.string (bs r)))
 have HF3 := Lib.hid (y8_ HF2.out (p := ⟨S, 0, none⟩) sx_ (.string (bs r)))
 have HRS3 := Lib.hid (y8_ HRS2.out (p := ⟨S, 0, none⟩) sx_ (.string (bs r)))
 have HG3 := Lib.hid (x4_ (rs := [S]) HG2.out (x6_ (z1_ _ _) (p := ⟨S, 0, none⟩) (.inl si_) (.string (bs r))) sx_)
 have hg3 : GL [S, R] w (w2.setCell ⟨S, 0, none⟩ (.string (bs r))) := x6_ hg2 (by first | (left; simp; done) | (right; simp; omega)) _
 have HS3 : Hid (SAt (w2.setCell ⟨S, 0, none⟩ (.string (bs r))) S r) := (x7_ HS2.out 0 (.string (bs r)))
 have HZ3 : Hid ((w2.setCell ⟨S, 0, none⟩ (.string (bs r))).heap.size = w2.heap.size) := by show _ = _; simp [World.setCell]
 generalize (w2.setCell ⟨S, 0, none⟩ (.string (bs r))) = w3 at *
 have hs3 := hg3.size
 have HS4 := Lib.hid (z8_ HS3.out (.cells #[.int .u8 1, .string (bs []), .int .i64 0, .slice none 0 0] 25))
 have ltSLB : S < w2.heap.size := by have := z0_ HS3.out; have := HZ3.out; omega
 have neSLB : S ≠ w2.heap.size := by omega
 have neLBS : w2.heap.size ≠ S := by omega
 have HR4 := Lib.hid (z8_ HR3.out (.cells #[.int .u8 1, .string (bs []), .int .i64 0, .slice none 0 0] 25))
 have ltRLB : R < w2.heap.size := by have := z0_ HR3.out; have := HZ3.out; omega
 have neRLB : R ≠ w2.heap.size := by omega
 have neLBR : w2.heap.size ≠ R := by omega
 have HF4 := Lib.hid (z8_ HF3.out (.cells #[.int .u8 1, .string (bs []), .int .i64 0, .slice none 0 0] 25))
 have ltFLB : F < w2.heap.size := by have := z0_ HF3.out; have := HZ3.out; omega
 have neFLB : F ≠ w2.heap.size := by omega
 have neLBF : w2.heap.size ≠ F := by omega
 have HRS4 := Lib.hid (z8_ HRS3.out (.cells #[.int .u8 1, .string (bs []), .int .i64 0, .slice none 0 0] 25))
 have ltRSLB : RS < w2.heap.size := by have := z0_ HRS3.out; have := HZ3.out; omega
 have neRSLB : RS ≠ w2.heap.size := by omega
 have neLBRS : w2.heap.size ≠ RS := by omega
 have hZ_ := z3_ w3 (.cells #[.int .u8 1, .string (bs []), .int .i64 0, .slice none 0 0] 25)
 rw [HZ3.out] at hZ_
 have HLB4 := Lib.hid (hZ_)
 clear hZ_
 have HG4 := Lib.hid (y5_ HG3.out (.cells #[.int .u8 1, .string (bs []), .int .i64 0, .slice none 0 0] 25))
 have hg4 := z6_ hg3 (.cells #[.int .u8 1, .string (bs []), .int .i64 0, .slice none 0 0] 25)
 have geLB : w.heap.size ≤ w2.heap.size := by have := hg3.size; omega
 have gnLB : gN ≤ w2.heap.size := by have := HG3.out.size; omega
 generalize (w3.alloc (.cells #[.int .u8 1, .string (bs []), .int .i64 0, .slice none 0 0] 25)) = w4 at *
 generalize w2.heap.size = LB at *
 have hs4 := hg4.size
 go_wp2_with fail
 refine (zd8_ r om_ _ HG4.out).mono ?_
 rintro e w5 ⟨rfl, hb5⟩
 rw [HV.out]
 have HS5 := Lib.hid (z9_ HS4.out hb5 (z0_ HS4.out))
 have HR5 := Lib.hid (z9_ HR4.out hb5 (z0_ HR4.out))
 have HF5 := Lib.hid (z9_ HF4.out hb5 (z0_ HF4.out))
 have HRS5 := Lib.hid (z9_ HRS4.out hb5 (z0_ HRS4.out))
 have HLB5 := Lib.hid (z9_ HLB4.out hb5 (z0_ HLB4.out))
 have HG5 := Lib.hid (y6_ HG4.out hb5)
 have hg5 := z4_ hb5 hg4
 have hs5 := hg5.size
 have fa4 := z2_ HS5.out
 have fb4 := z5_ HS5.out
 have fl4 := z0_ HS5.out
 have fa5 := z2_ HLB5.out
 have fb5 := z5_ HLB5.out
 have fl5 := z0_ HLB5.out
 have fa6 := z2_ HRS5.out
 have fb6 := z5_ HRS5.out
 have fl6 := z0_ HRS5.out
 have hgq := hg5
 go_wp2
 refine bodyPost_ret (v := .tuple #[.agg #[.int .u8 1, .string (bs []), .int .i64 0, .slice none 0 0], .bool false]) (by simp [results, Tryz.results49, go_sem, zaP_, fa4, fb4, fl4, fa5, fb5, fl5, fa6, fb6, fl6, neSRS, neRSS, neSLB, neLBS, neRSLB, neLBRS]) rfl ⟨gl_, _, _, _, _, _, _, rfl⟩
theorem zkT_ (r : List UInt8) (rm : Nat) (S R F : Nat) (w : World) (nSR : S ≠ R) (nSF : S ≠ F) (nRF : R ≠ F) (gnS : gN ≤ S) (gnR : gN ≤ R) (hS : SAt w S (115 :: r)) (hR : RAt w R ((rm : Int) + 1)) (hF : FAt w F S R) (hrl : r.length ≤ 100000000000) (hrm : (rm : Int) ≤ 1000) (hb0 : ((rm : Int) + 1 == 0) = false) (t s2 : List UInt8) (ht : t.length ≤ 100000000000) (hc : v4_ r = some (t, s2)) (hG : GOk w) :
  Calls Tryz.prog 49 #[.pointer (some ⟨S, 0, none⟩), .pointer (some ⟨R, 0, none⟩), .pointer (some ⟨F, 0, none⟩)] w (zaw_ S R w (some (.mk 1 t 0 [], s2, rm))) := by
 have HG0 := Lib.hid hG
 have nRS := nSR.symm
 have nFS := nSF.symm
 have nFR := nRF.symm
 have HV : Hid (zau_ r = .tuple #[.string (bs t), .string (bs s2), .bool true]) := by show zau_ r = _; unfold zau_; rw [hc]
 have HS0 := Lib.hid hS
 have HR0 := Lib.hid hR
 have HF0 := Lib.hid hF
 clear hS hR hF hG
 go_enter Tryz.func49, Tryz.ntmps49
 have hg0 : GL [S, R] w w := z1_ _ _
 have hs0 : w.heap.size ≤ w.heap.size := Nat.le_refl _
 have fa1 := z2_ HS0.out
 have fb1 := z5_ HS0.out
 have fl1 := z0_ HS0.out
 have fa2 := z2_ HR0.out
 have fb2 := z5_ HR0.out
 have fl2 := z0_ HR0.out
 go_wp2_with fail
 clear fa1 fb1 fl1 fa2 fb2 fl2
 have HS1 := Lib.hid (y8_ HS0.out (p := ⟨R, 0, none⟩) sx_ (.int .i64 rm))
 have HF1 := Lib.hid (y8_ HF0.out (p := ⟨R, 0, none⟩) sx_ (.int .i64 rm))
 have HG1 := Lib.hid (x4_ (rs := [R]) HG0.out (x6_ (z1_ _ _) (p := ⟨R, 0, none⟩) (.inl si_) (.int .i64 rm)) sx_)
 have hg1 : GL [S, R] w (w.setCell ⟨R, 0, none⟩ (.int .i64 rm)) := x6_ hg0 (by first | (left; simp; done) | (right; simp; omega)) _
 have HR1 : Hid (RAt (w.setCell ⟨R, 0, none⟩ (.int .i64 rm)) R rm) := (x7_ HR0.out 0 (.int .i64 rm))
 have HZ1 : Hid ((w.setCell ⟨R, 0, none⟩ (.int .i64 rm)).heap.size = w.heap.size) := by show _ = _; simp [World.setCell]
 generalize (w.setCell ⟨R, 0, none⟩ (.int .i64 rm)) = w1 at *
 have hs1 := hg1.size
 have hle : k0_ w ≤ w.heap.size ∧ w.heap.size ≤ k0_ w := ⟨Nat.le_refl _, Nat.le_refl _⟩
 have HS2 := Lib.hid (z8_ HS1.out zl_)
 have ltSRS : S < w.heap.size := by have := z0_ HS1.out; have := HZ1.out; omega
 have neSRS : S ≠ w.heap.size := by omega
 have neRSS : w.heap.size ≠ S := by omega
 have HR2 := Lib.hid (z8_ HR1.out zl_)
 have ltRRS : R < w.heap.size := by have := z0_ HR1.out; have := HZ1.out; omega
 have neRRS : R ≠ w.heap.size := by omega
 have neRSR : w.heap.size ≠ R := by omega
 have HF2 := Lib.hid (z8_ HF1.out zl_)
 have ltFRS : F < w.heap.size := by have := z0_ HF1.out; have := HZ1.out; omega
 have neFRS : F ≠ w.heap.size := by omega
 have neRSF : w.heap.size ≠ F := by omega
 have hZ_ := z3_ w1 zl_
 rw [HZ1.out] at hZ_
 have HRS2 := Lib.hid (hZ_)
 clear hZ_
 have HG2 := Lib.hid (y5_ HG1.out zl_)
 have hg2 := z6_ hg1 zl_
 have geRS : w.heap.size ≤ w.heap.size := by have := hg1.size; omega
 have gnRS : gN ≤ w.heap.size := by have := HG1.out.size; omega
 generalize (w1.alloc zl_) = w2 at *
 generalize w.heap.size = RS at *
 have hs2 := hg2.size
 have hRSw : w.heap.size ≤ RS := hle.1
 have hRSw2 : RS ≤ w.heap.size := hle.2
 refine (zas_ [32, 115, 112, 97, 111, 38, 124] _ 115 rfl _).mono ?_
 rintro e wq ⟨rfl, hwq⟩
 have hwq2 := hwq.symm
 subst hwq2
 rw [show Lib.indexByte [32, 115, 112, 97, 111, 38, 124] 115 = 1 by decide]
 have fa3 := z2_ HS2.out
 have fb3 := z5_ HS2.out
 have fl3 := z0_ HS2.out
 go_wp2_with fail
 clear fa3 fb3 fl3
 have HR3 := Lib.hid (y8_ HR2.out (p := ⟨S, 0, none⟩) sx_ (.string (bs r)))
 have HF3 := Lib.hid (y8_ HF2.out (p := ⟨S, 0, none⟩) sx_ (.string (bs r)))
 have HRS3 := Lib.hid (y8_ HRS2.out (p := ⟨S, 0, none⟩) sx_ (.string (bs r)))
 have HG3 := Lib.hid (x4_ (rs := [S]) HG2.out (x6_ (z1_ _ _) (p := ⟨S, 0, none⟩) (.inl si_) (.string (bs r))) sx_)
 have hg3 : GL [S, R] w (w2.setCell ⟨S, 0, none⟩ (.string (bs r))) := x6_ hg2 (by first | (left; simp; done) | (right; simp; omega)) _
 have HS3 : Hid (SAt (w2.setCell ⟨S, 0, none⟩ (.string (bs r))) S r) := (x7_ HS2.out 0 (.string (bs r)))
 have HZ3 : Hid ((w2.setCell ⟨S, 0, none⟩ (.string (bs r))).heap.size = w2.heap.size) := by show _ = _; simp [World.setCell]
 generalize (w2.setCell ⟨S, 0, none⟩ (.string (bs r))) = w3 at *
 have hs3 := hg3.size
 have HS4 := Lib.hid (z8_ HS3.out (.cells #[.int .u8 1, .string (bs []), .int .i64 0, .slice none 0 0] 25))
 have ltSLB : S < w2.heap.size := by have := z0_ HS3.out; have := HZ3.out; omega
 have neSLB : S ≠ w2.heap.size := by omega
 have neLBS : w2.heap.size ≠ S := by omega
 have HR4 := Lib.hid (z8_ HR3.out (.cells #[.int .u8 1, .string (bs []), .int .i64 0, .slice none 0 0] 25))
 have ltRLB : R < w2.heap.size := by have := z0_ HR3.out; have := HZ3.out; omega
 have neRLB : R ≠ w2.heap.size := by omega
 have neLBR : w2.heap.size ≠ R := by omega
 have HF4 := Lib.hid (z8_ HF3.out (.cells #[.int .u8 1, .string (bs []), .int .i64 0, .slice none 0 0] 25))
 have ltFLB : F < w2.heap.size := by have := z0_ HF3.out; have := HZ3.out; omega
 have neFLB : F ≠ w2.heap.size := by omega
 have neLBF : w2.heap.size ≠ F := by omega
 have HRS4 := Lib.hid (z8_ HRS3.out (.cells #[.int .u8 1, .string (bs []), .int .i64 0, .slice none 0 0] 25))
 have ltRSLB : RS < w2.heap.size := by have := z0_ HRS3.out; have := HZ3.out; omega
 have neRSLB : RS ≠ w2.heap.size := by omega
 have neLBRS : w2.heap.size ≠ RS := by omega
 have hZ_ := z3_ w3 (.cells #[.int .u8 1, .string (bs []), .int .i64 0, .slice none 0 0] 25)
 rw [HZ3.out] at hZ_
 have HLB4 := Lib.hid (hZ_)
 clear hZ_
 have HG4 := Lib.hid (y5_ HG3.out (.cells #[.int .u8 1, .string (bs []), .int .i64 0, .slice none 0 0] 25))
 have hg4 := z6_ hg3 (.cells #[.int .u8 1, .string (bs []), .int .i64 0, .slice none 0 0] 25)
 have geLB : w.heap.size ≤ w2.heap.size := by have := hg3.size; omega
 have gnLB : gN ≤ w2.heap.size := by have := HG3.out.size; omega
 generalize (w3.alloc (.cells #[.int .u8 1, .string (bs []), .int .i64 0, .slice none 0 0] 25)) = w4 at *
 generalize w2.heap.size = LB at *
 have hs4 := hg4.size
 go_wp2_with fail
 refine (zd8_ r om_ _ HG4.out).mono ?_
 rintro e w5 ⟨rfl, hb5⟩
 rw [HV.out]
 have HS5 := Lib.hid (z9_ HS4.out hb5 (z0_ HS4.out))
 have HR5 := Lib.hid (z9_ HR4.out hb5 (z0_ HR4.out))
 have HF5 := Lib.hid (z9_ HF4.out hb5 (z0_ HF4.out))
 have HRS5 := Lib.hid (z9_ HRS4.out hb5 (z0_ HRS4.out))
 have HLB5 := Lib.hid (z9_ HLB4.out hb5 (z0_ HLB4.out))
 have HG5 := Lib.hid (y6_ HG4.out hb5)
 have hg5 := z4_ hb5 hg4
 have hs5 := hg5.size
 have fa4 := z2_ HS5.out
 have fb4 := z5_ HS5.out
 have fl4 := z0_ HS5.out
 have fa5 := z2_ HLB5.out
 have fb5 := z5_ HLB5.out
 have fl5 := z0_ HLB5.out
 have fa6 := z2_ HRS5.out
 have fb6 := z5_ HRS5.out
 have fl6 := z0_ HRS5.out
 have hgq := hg5
 go_wp2
 refine bodyPost_ret (v := .tuple #[.agg #[.int .u8 1, .string (bs t), .int .i64 0, .slice none 0 0], .bool true]) (by simp [results, Tryz.results49, go_sem, zaP_, fa4, fb4, fl4, fa5, fb5, fl5, fa6, fb6, fl6, neSRS, neRSS, neSLB, neLBS, neRSLB, neLBRS]) rfl ⟨gl_, _, rfl, ?_, ?_, ?_⟩
 · unfold y2_
   exact ⟨by omega, by omega, by omega, by simp, _, rfl, .inl ⟨none, 0, rfl, rfl⟩⟩
 · have hq : SAt ((w5.setCell ⟨LB, 1, none⟩ (.string (bs t))).setCell ⟨S, 0, none⟩ (.string (bs s2))) S s2 := x7_ (y8_ HS5.out (p := ⟨LB, 1, none⟩) (by first | exact neSLB | (simp; omega)) (.string (bs t))) 0 (.string (bs s2))
   unfold SAt at hq ⊢
   (repeat' (first | with_reducible exact hq | with_reducible refine z8_ ?_ _ | with_reducible refine zaf_ ?_ _ | with_reducible refine zac_ ?_ | with_reducible refine y8_ ?_ ?_ _ | (simp; done) | (simp; omega) | omega))
 · have hq := HR5.out
   unfold RAt at hq ⊢
   (repeat' (first | with_reducible exact hq | with_reducible refine z8_ ?_ _ | with_reducible refine zaf_ ?_ _ | with_reducible refine zac_ ?_ | with_reducible refine y8_ ?_ ?_ _ | (simp; done) | (simp; omega) | omega))
theorem zkU_ (r : List UInt8) (rm : Nat) (S R F : Nat) (w : World) (nSR : S ≠ R) (nSF : S ≠ F) (nRF : R ≠ F) (gnS : gN ≤ S) (gnR : gN ≤ R) (hS : SAt w S (112 :: r)) (hR : RAt w R ((rm : Int) + 1)) (hF : FAt w F S R) (hrl : r.length ≤ 100000000000) (hrm : (rm : Int) ≤ 1000) (hb0 : ((rm : Int) + 1 == 0) = false) (hc : v4_ r = none) (hG : GOk w) :
  Calls Tryz.prog 49 #[.pointer (some ⟨S, 0, none⟩), .pointer (some ⟨R, 0, none⟩), .pointer (some ⟨F, 0, none⟩)] w (zaw_ S R w (none)) := by
 have HG0 := Lib.hid hG
 have nRS := nSR.symm
 have nFS := nSF.symm
 have nFR := nRF.symm
 have HV : Hid (zau_ r = .tuple #[.string (bs []), .string (bs []), .bool false]) := by show zau_ r = _; unfold zau_; rw [hc]
 have HS0 := Lib.hid hS
 have HR0 := Lib.hid hR
 have HF0 := Lib.hid hF
 clear hS hR hF hG
 go_enter Tryz.func49, Tryz.ntmps49
 have hg0 : GL [S, R] w w := z1_ _ _
 have hs0 : w.heap.size ≤ w.heap.size := Nat.le_refl _
 have fa1 := z2_ HS0.out
 have fb1 := z5_ HS0.out
 have fl1 := z0_ HS0.out
 have fa2 := z2_ HR0.out
 have fb2 := z5_ HR0.out
 have fl2 := z0_ HR0.out
 go_wp2_with fail
 clear fa1 fb1 fl1 fa2 fb2 fl2
 have HS1 := Lib.hid (y8_ HS0.out (p := ⟨R, 0, none⟩) sx_ (.int .i64 rm))
 have HF1 := Lib.hid (y8_ HF0.out (p := ⟨R, 0, none⟩) sx_ (.int .i64 rm))
 have HG1 := Lib.hid (x4_ (rs := [R]) HG0.out (x6_ (z1_ _ _) (p := ⟨R, 0, none⟩) (.inl si_) (.int .i64 rm)) sx_)
 have hg1 : GL [S, R] w (w.setCell ⟨R, 0, none⟩ (.int .i64 rm)) := x6_ hg0 (by first | (left; simp; done) | (right; simp; omega)) _
 have HR1 : Hid (RAt (w.setCell ⟨R, 0, none⟩ (.int .i64 rm)) R rm) := (x7_ HR0.out 0 (.int .i64 rm))
 have HZ1 : Hid ((w.setCell ⟨R, 0, none⟩ (.int .i64 rm)).heap.size = w.heap.size) := by show _ = _; simp [World.setCell]
 generalize (w.setCell ⟨R, 0, none⟩ (.int .i64 rm)) = w1 at *
 have hs1 := hg1.size
 have hle : k0_ w ≤ w.heap.size ∧ w.heap.size ≤ k0_ w := ⟨Nat.le_refl _, Nat.le_refl _⟩
 have HS2 := Lib.hid (z8_ HS1.out zl_)
 have ltSRS : S < w.heap.size := by have := z0_ HS1.out; have := HZ1.out; omega
 have neSRS : S ≠ w.heap.size := by omega
 have neRSS : w.heap.size ≠ S := by omega
 have HR2 := Lib.hid (z8_ HR1.out zl_)
 have ltRRS : R < w.heap.size := by have := z0_ HR1.out; have := HZ1.out; omega
 have neRRS : R ≠ w.heap.size := by omega
 have neRSR : w.heap.size ≠ R := by omega
 have HF2 := Lib.hid (z8_ HF1.out zl_)
 have ltFRS : F < w.heap.size := by have := z0_ HF1.out; have := HZ1.out; omega
 have neFRS : F ≠ w.heap.size := by omega
 have neRSF : w.heap.size ≠ F := by omega
 have hZ_ := z3_ w1 zl_
 rw [HZ1.out] at hZ_
 have HRS2 := Lib.hid (hZ_)
 clear hZ_
 have HG2 := Lib.hid (y5_ HG1.out zl_)
 have hg2 := z6_ hg1 zl_
 have geRS : w.heap.size ≤ w.heap.size := by have := hg1.size; omega
 have gnRS : gN ≤ w.heap.size := by have := HG1.out.size; omega
 generalize (w1.alloc zl_) = w2 at *
 generalize w.heap.size = RS at *
 have hs2 := hg2.size
 have hRSw : w.heap.size ≤ RS := hle.1
 have hRSw2 : RS ≤ w.heap.size := hle.2
 refine (zas_ [32, 115, 112, 97, 111, 38, 124] _ 112 rfl _).mono ?_
 rintro e wq ⟨rfl, hwq⟩
 have hwq2 := hwq.symm
 subst hwq2
 rw [show Lib.indexByte [32, 115, 112, 97, 111, 38, 124] 112 = 2 by decide]
 have fa3 := z2_ HS2.out
 have fb3 := z5_ HS2.out
 have fl3 := z0_ HS2.out
 go_wp2_with fail
 clear fa3 fb3 fl3
 have HR3 := Lib.hid (y8_ HR2.out (p := ⟨S, 0, none⟩) sx_ (.string (bs r)))
 have HF3 := Lib.hid (y8_ HF2.out (p := ⟨S, 0, none⟩) sx_ (.string (bs r)))
 have HRS3 := Lib.hid (y8_ HRS2.out (p := ⟨S, 0, none⟩) sx_ (.string (bs r)))
 have HG3 := Lib.hid (x4_ (rs := [S]) HG2.out (x6_ (z1_ _ _) (p := ⟨S, 0, none⟩) (.inl si_) (.string (bs r))) sx_)
 have hg3 : GL [S, R] w (w2.setCell ⟨S, 0, none⟩ (.string (bs r))) := x6_ hg2 (by first | (left; simp; done) | (right; simp; omega)) _
 have HS3 : Hid (SAt (w2.setCell ⟨S, 0, none⟩ (.string (bs r))) S r) := (x7_ HS2.out 0 (.string (bs r)))
 have HZ3 : Hid ((w2.setCell ⟨S, 0, none⟩ (.string (bs r))).heap.size = w2.heap.size) := by show _ = _; simp [World.setCell]
 generalize (w2.setCell ⟨S, 0, none⟩ (.string (bs r))) = w3 at *
 have hs3 := hg3.size
 have HS4 := Lib.hid (z8_ HS3.out (.cells #[.int .u8 2, .string (bs []), .int .i64 0, .slice none 0 0] 25))
 have ltSLB : S < w2.heap.size := by have := z0_ HS3.out; have := HZ3.out; omega
 have neSLB : S ≠ w2.heap.size := by omega
 have neLBS : w2.heap.size ≠ S := by omega
 have HR4 := Lib.hid (z8_ HR3.out (.cells #[.int .u8 2, .string (bs []), .int .i64 0, .slice none 0 0] 25))
 have ltRLB : R < w2.heap.size := by have := z0_ HR3.out; have := HZ3.out; omega
 have neRLB : R ≠ w2.heap.size := by omega
 have neLBR : w2.heap.size ≠ R := by omega
 have HF4 := Lib.hid (z8_ HF3.out (.cells #[.int .u8 2, .string (bs []), .int .i64 0, .slice none 0 0] 25))
 have ltFLB : F < w2.heap.size := by have := z0_ HF3.out; have := HZ3.out; omega
 have neFLB : F ≠ w2.heap.size := by omega
 have neLBF : w2.heap.size ≠ F := by omega
 have HRS4 := Lib.hid (z8_ HRS3.out (.cells #[.int .u8 2, .string (bs []), .int .i64 0, .slice none 0 0] 25))
 have ltRSLB : RS < w2.heap.size := by have := z0_ HRS3.out; have := HZ3.out; omega
 have neRSLB : RS ≠ w2.heap.size := by omega
 have neLBRS : w2.heap.size ≠ RS := by omega
 have hZ_ := z3_ w3 (.cells #[.int .u8 2, .string (bs []), .int .i64 0, .slice none 0 0] 25)
 rw [HZ3.out] at hZ_
 have HLB4 := Lib.hid (hZ_)
 clear hZ_
 have HG4 := Lib.hid (y5_ HG3.out (.cells #[.int .u8 2, .string (bs []), .int .i64 0, .slice none 0 0] 25))
 have hg4 := z6_ hg3 (.cells #[.int .u8 2, .string (bs []), .int .i64 0, .slice none 0 0] 25)
 have geLB : w.heap.size ≤ w2.heap.size := by have := hg3.size; omega
 have gnLB : gN ≤ w2.heap.size := by have := HG3.out.size; omega
 generalize (w3.alloc (.cells #[.int .u8 2, .string (bs []), .int .i64 0, .slice none 0 0] 25)) = w4 at *
 generalize w2.heap.size = LB at *
 have hs4 := hg4.size
 go_wp2_with fail
 refine (zd8_ r om_ _ HG4.out).mono ?_
 rintro e w5 ⟨rfl, hb5⟩
 rw [HV.out]
 have HS5 := Lib.hid (z9_ HS4.out hb5 (z0_ HS4.out))
 have HR5 := Lib.hid (z9_ HR4.out hb5 (z0_ HR4.out))
 have HF5 := Lib.hid (z9_ HF4.out hb5 (z0_ HF4.out))
 have HRS5 := Lib.hid (z9_ HRS4.out hb5 (z0_ HRS4.out))
 have HLB5 := Lib.hid (z9_ HLB4.out hb5 (z0_ HLB4.out))
 have HG5 := Lib.hid (y6_ HG4.out hb5)
 have hg5 := z4_ hb5 hg4
 have hs5 := hg5.size
 have fa4 := z2_ HS5.out
 have fb4 := z5_ HS5.out
 have fl4 := z0_ HS5.out
 have fa5 := z2_ HLB5.out
 have fb5 := z5_ HLB5.out
 have fl5 := z0_ HLB5.out
 have fa6 := z2_ HRS5.out
 have fb6 := z5_ HRS5.out
 have fl6 := z0_ HRS5.out
 have hgq := hg5
 go_wp2
 refine bodyPost_ret (v := .tuple #[.agg #[.int .u8 2, .string (bs []), .int .i64 0, .slice none 0 0], .bool false]) (by simp [results, Tryz.results49, go_sem, zaP_, fa4, fb4, fl4, fa5, fb5, fl5, fa6, fb6, fl6, neSRS, neRSS, neSLB, neLBS, neRSLB, neLBRS]) rfl ⟨gl_, _, _, _, _, _, _, rfl⟩
theorem zkV_ (r : List UInt8) (rm : Nat) (S R F : Nat) (w : World) (nSR : S ≠ R) (nSF : S ≠ F) (nRF : R ≠ F) (gnS : gN ≤ S) (gnR : gN ≤ R) (hS : SAt w S (112 :: r)) (hR : RAt w R ((rm : Int) + 1)) (hF : FAt w F S R) (hrl : r.length ≤ 100000000000) (hrm : (rm : Int) ≤ 1000) (hb0 : ((rm : Int) + 1 == 0) = false) (t s2 : List UInt8) (ht : t.length ≤ 100000000000) (hc : v4_ r = some (t, s2)) (hG : GOk w) :
  Calls Tryz.prog 49 #[.pointer (some ⟨S, 0, none⟩), .pointer (some ⟨R, 0, none⟩), .pointer (some ⟨F, 0, none⟩)] w (zaw_ S R w (some (.mk 2 t 0 [], s2, rm))) := by
 have HG0 := Lib.hid hG
 have nRS := nSR.symm
 have nFS := nSF.symm
 have nFR := nRF.symm
 have HV : Hid (zau_ r = .tuple #[.string (bs t), .string (bs s2), .bool true]) := by show zau_ r = _; unfold zau_; rw [hc]
 have HS0 := Lib.hid hS
 have HR0 := Lib.hid hR
 have HF0 := Lib.hid hF
 clear hS hR hF hG
 go_enter Tryz.func49, Tryz.ntmps49
 have hg0 : GL [S, R] w w := z1_ _ _
 have hs0 : w.heap.size ≤ w.heap.size := Nat.le_refl _
 have fa1 := z2_ HS0.out
 have fb1 := z5_ HS0.out
 have fl1 := z0_ HS0.out
 have fa2 := z2_ HR0.out
 have fb2 := z5_ HR0.out
 have fl2 := z0_ HR0.out
 go_wp2_with fail
 clear fa1 fb1 fl1 fa2 fb2 fl2
 have HS1 := Lib.hid (y8_ HS0.out (p := ⟨R, 0, none⟩) sx_ (.int .i64 rm))
 have HF1 := Lib.hid (y8_ HF0.out (p := ⟨R, 0, none⟩) sx_ (.int .i64 rm))
 have HG1 := Lib.hid (x4_ (rs := [R]) HG0.out (x6_ (z1_ _ _) (p := ⟨R, 0, none⟩) (.inl si_) (.int .i64 rm)) sx_)
 have hg1 : GL [S, R] w (w.setCell ⟨R, 0, none⟩ (.int .i64 rm)) := x6_ hg0 (by first | (left; simp; done) | (right; simp; omega)) _
 have HR1 : Hid (RAt (w.setCell ⟨R, 0, none⟩ (.int .i64 rm)) R rm) := (x7_ HR0.out 0 (.int .i64 rm))
 have HZ1 : Hid ((w.setCell ⟨R, 0, none⟩ (.int .i64 rm)).heap.size = w.heap.size) := by show _ = _; simp [World.setCell]
 generalize (w.setCell ⟨R, 0, none⟩ (.int .i64 rm)) = w1 at *
 have hs1 := hg1.size
 have hle : k0_ w ≤ w.heap.size ∧ w.heap.size ≤ k0_ w := ⟨Nat.le_refl _, Nat.le_refl _⟩
 have HS2 := Lib.hid (z8_ HS1.out zl_)
 have ltSRS : S < w.heap.size := by have := z0_ HS1.out; have := HZ1.out; omega
 have neSRS : S ≠ w.heap.size := by omega
 have neRSS : w.heap.size ≠ S := by omega
 have HR2 := Lib.hid (z8_ HR1.out zl_)
 have ltRRS : R < w.heap.size := by have := z0_ HR1.out; have := HZ1.out; omega
 have neRRS : R ≠ w.heap.size := by omega
 have neRSR : w.heap.size ≠ R := by omega
 have HF2 := Lib.hid (z8_ HF1.out zl_)
 have ltFRS : F < w.heap.size := by have := z0_ HF1.out; have := HZ1.out; omega
 have neFRS : F ≠ w.heap.size := by omega
 have neRSF : w.heap.size ≠ F := by omega
 have hZ_ := z3_ w1 zl_
 rw [HZ1.out] at hZ_
 have HRS2 := Lib.hid (hZ_)
 clear hZ_
 have HG2 := Lib.hid (y5_ HG1.out zl_)
 have hg2 := z6_ hg1 zl_
 have geRS : w.heap.size ≤ w.heap.size := by have := hg1.size; omega
 have gnRS : gN ≤ w.heap.size := by have := HG1.out.size; omega
 generalize (w1.alloc zl_) = w2 at *
 generalize w.heap.size = RS at *
 have hs2 := hg2.size
 have hRSw : w.heap.size ≤ RS := hle.1
 have hRSw2 : RS ≤ w.heap.size := hle.2
 refine (zas_ [32, 115, 112, 97, 111, 38, 124] _ 112 rfl _).mono ?_
 rintro e wq ⟨rfl, hwq⟩
 have hwq2 := hwq.symm
 subst hwq2
 rw [show Lib.indexByte [32, 115, 112, 97, 111, 38, 124] 112 = 2 by decide]
 have fa3 := z2_ HS2.out
 have fb3 := z5_ HS2.out
 have fl3 := z0_ HS2.out
 go_wp2_with fail
 clear fa3 fb3 fl3
 have HR3 := Lib.hid (y8_ HR2.out (p := ⟨S, 0, none⟩) sx_ (.string (bs r)))
 have HF3 := Lib.hid (y8_ HF2.out (p := ⟨S, 0, none⟩) sx_ (.string (bs r)))
 have HRS3 := Lib.hid (y8_ HRS2.out (p := ⟨S, 0, none⟩) sx_ (.string (bs r)))
 have HG3 := Lib.hid (x4_ (rs := [S]) HG2.out (x6_ (z1_ _ _) (p := ⟨S, 0, none⟩) (.inl si_) (.string (bs r))) sx_)
 have hg3 : GL [S, R] w (w2.setCell ⟨S, 0, none⟩ (.string (bs r))) := x6_ hg2 (by first | (left; simp; done) | (right; simp; omega)) _
 have HS3 : Hid (SAt (w2.setCell ⟨S, 0, none⟩ (.string (bs r))) S r) := (x7_ HS2.out 0 (.string (bs r)))
 have HZ3 : Hid ((w2.setCell ⟨S, 0, none⟩ (.string (bs r))).heap.size = w2.heap.size) := by show _ = _; simp [World.setCell]
 generalize (w2.setCell ⟨S, 0, none⟩ (.string (bs r))) = w3 at *
 have hs3 := hg3.size
 have HS4 := Lib.hid (z8_ HS3.out (.cells #[.int .u8 2, .string (bs []), .int .i64 0, .slice none 0 0] 25))
 have ltSLB : S < w2.heap.size := by have := z0_ HS3.out; have := HZ3.out; omega
 have neSLB : S ≠ w2.heap.size := by omega
 have neLBS : w2.heap.size ≠ S := by omega
 have HR4 := Lib.hid (z8_ HR3.out (.cells #[.int .u8 2, .string (bs []), .int .i64 0, .slice none 0 0] 25))
 have ltRLB : R < w2.heap.size := by have := z0_ HR3.out; have := HZ3.out; omega
 have neRLB : R ≠ w2.heap.size := by omega
 have neLBR : w2.heap.size ≠ R := by omega
 have HF4 := Lib.hid (z8_ HF3.out (.cells #[.int .u8 2, .string (bs []), .int .i64 0, .slice none 0 0] 25))
 have ltFLB : F < w2.heap.size := by have := z0_ HF3.out; have := HZ3.out; omega
 have neFLB : F ≠ w2.heap.size := by omega
 have neLBF : w2.heap.size ≠ F := by omega
 have HRS4 := Lib.hid (z8_ HRS3.out (.cells #[.int .u8 2, .string (bs []), .int .i64 0, .slice none 0 0] 25))
 have ltRSLB : RS < w2.heap.size := by have := z0_ HRS3.out; have := HZ3.out; omega
 have neRSLB : RS ≠ w2.heap.size := by omega
 have neLBRS : w2.heap.size ≠ RS := by omega
 have hZ_ := z3_ w3 (.cells #[.int .u8 2, .string (bs []), .int .i64 0, .slice none 0 0] 25)
 rw [HZ3.out] at hZ_
 have HLB4 := Lib.hid (hZ_)
 clear hZ_
 have HG4 := Lib.hid (y5_ HG3.out (.cells #[.int .u8 2, .string (bs []), .int .i64 0, .slice none 0 0] 25))
 have hg4 := z6_ hg3 (.cells #[.int .u8 2, .string (bs []), .int .i64 0, .slice none 0 0] 25)
 have geLB : w.heap.size ≤ w2.heap.size := by have := hg3.size; omega
 have gnLB : gN ≤ w2.heap.size := by have := HG3.out.size; omega
 generalize (w3.alloc (.cells #[.int .u8 2, .string (bs []), .int .i64 0, .slice none 0 0] 25)) = w4 at *
 generalize w2.heap.size = LB at *
 have hs4 := hg4.size
 go_wp2_with fail
 refine (zd8_ r om_ _ HG4.out).mono ?_
 rintro e w5 ⟨rfl, hb5⟩
 rw [HV.out]
 have HS5 := Lib.hid (z9_ HS4.out hb5 (z0_ HS4.out))
 have HR5 := Lib.hid (z9_ HR4.out hb5 (z0_ HR4.out))
 have HF5 := Lib.hid (z9_ HF4.out hb5 (z0_ HF4.out))
 have HRS5 := Lib.hid (z9_ HRS4.out hb5 (z0_ HRS4.out))
 have HLB5 := Lib.hid (z9_ HLB4.out hb5 (z0_ HLB4.out))
 have HG5 := Lib.hid (y6_ HG4.out hb5)
 have hg5 := z4_ hb5 hg4
 have hs5 := hg5.size
 have fa4 := z2_ HS5.out
 have fb4 := z5_ HS5.out
 have fl4 := z0_ HS5.out
 have fa5 := z2_ HLB5.out
 have fb5 := z5_ HLB5.out
 have fl5 := z0_ HLB5.out
 have fa6 := z2_ HRS5.out
 have fb6 := z5_ HRS5.out
 have fl6 := z0_ HRS5.out
 have hgq := hg5
 go_wp2
 refine bodyPost_ret (v := .tuple #[.agg #[.int .u8 2, .string (bs t), .int .i64 0, .slice none 0 0], .bool true]) (by simp [results, Tryz.results49, go_sem, zaP_, fa4, fb4, fl4, fa5, fb5, fl5, fa6, fb6, fl6, neSRS, neRSS, neSLB, neLBS, neRSLB, neLBRS]) rfl ⟨gl_, _, rfl, ?_, ?_, ?_⟩
 · unfold y2_
   exact ⟨by omega, by omega, by omega, by simp, _, rfl, .inl ⟨none, 0, rfl, rfl⟩⟩
 · have hq : SAt ((w5.setCell ⟨LB, 1, none⟩ (.string (bs t))).setCell ⟨S, 0, none⟩ (.string (bs s2))) S s2 := x7_ (y8_ HS5.out (p := ⟨LB, 1, none⟩) (by first | exact neSLB | (simp; omega)) (.string (bs t))) 0 (.string (bs s2))
   unfold SAt at hq ⊢
   (repeat' (first | with_reducible exact hq | with_reducible refine z8_ ?_ _ | with_reducible refine zaf_ ?_ _ | with_reducible refine zac_ ?_ | with_reducible refine y8_ ?_ ?_ _ | (simp; done) | (simp; omega) | omega))
 · have hq := HR5.out
   unfold RAt at hq ⊢
   (repeat' (first | with_reducible exact hq | with_reducible refine z8_ ?_ _ | with_reducible refine zaf_ ?_ _ | with_reducible refine zac_ ?_ | with_reducible refine y8_ ?_ ?_ _ | (simp; done) | (simp; omega) | omega))
theorem zkW_ (r : List UInt8) (rm : Nat) (S R F : Nat) (w : World) (nSR : S ≠ R) (nSF : S ≠ F) (nRF : R ≠ F) (gnS : gN ≤ S) (gnR : gN ≤ R) (hS : SAt w S (97 :: r)) (hR : RAt w R ((rm : Int) + 1)) (hF : FAt w F S R) (hrl : r.length ≤ 100000000000) (hrm : (rm : Int) ≤ 1000) (hb0 : ((rm : Int) + 1 == 0) = false) (hc : v7_ 59 r = none) (hG : GOk w) :
  Calls Tryz.prog 49 #[.pointer (some ⟨S, 0, none⟩), .pointer (some ⟨R, 0, none⟩), .pointer (some ⟨F, 0, none⟩)] w (zaw_ S R w (none)) := by
 have HG0 := Lib.hid hG
 have nRS := nSR.symm
 have nFS := nSF.symm
 have nFR := nRF.symm
 have HV := Lib.hid (zb3_ hc)
 have HS0 := Lib.hid hS
 have HR0 := Lib.hid hR
 have HF0 := Lib.hid hF
 clear hS hR hF hG
 go_enter Tryz.func49, Tryz.ntmps49
 have hg0 : GL [S, R] w w := z1_ _ _
 have hs0 : w.heap.size ≤ w.heap.size := Nat.le_refl _
 have fa1 := z2_ HS0.out
 have fb1 := z5_ HS0.out
 have fl1 := z0_ HS0.out
 have fa2 := z2_ HR0.out
 have fb2 := z5_ HR0.out
 have fl2 := z0_ HR0.out
 go_wp2_with fail
 clear fa1 fb1 fl1 fa2 fb2 fl2
 have HS1 := Lib.hid (y8_ HS0.out (p := ⟨R, 0, none⟩) sx_ (.int .i64 rm))
 have HF1 := Lib.hid (y8_ HF0.out (p := ⟨R, 0, none⟩) sx_ (.int .i64 rm))
 have HG1 := Lib.hid (x4_ (rs := [R]) HG0.out (x6_ (z1_ _ _) (p := ⟨R, 0, none⟩) (.inl si_) (.int .i64 rm)) sx_)
 have hg1 : GL [S, R] w (w.setCell ⟨R, 0, none⟩ (.int .i64 rm)) := x6_ hg0 (by first | (left; simp; done) | (right; simp; omega)) _
 have HR1 : Hid (RAt (w.setCell ⟨R, 0, none⟩ (.int .i64 rm)) R rm) := (x7_ HR0.out 0 (.int .i64 rm))
 have HZ1 : Hid ((w.setCell ⟨R, 0, none⟩ (.int .i64 rm)).heap.size = w.heap.size) := by show _ = _; simp [World.setCell]
 generalize (w.setCell ⟨R, 0, none⟩ (.int .i64 rm)) = w1 at *
 have hs1 := hg1.size
 have hle : k0_ w ≤ w.heap.size ∧ w.heap.size ≤ k0_ w := ⟨Nat.le_refl _, Nat.le_refl _⟩
 have HS2 := Lib.hid (z8_ HS1.out zl_)
 have ltSRS : S < w.heap.size := by have := z0_ HS1.out; have := HZ1.out; omega
 have neSRS : S ≠ w.heap.size := by omega
 have neRSS : w.heap.size ≠ S := by omega
 have HR2 := Lib.hid (z8_ HR1.out zl_)
 have ltRRS : R < w.heap.size := by have := z0_ HR1.out; have := HZ1.out; omega
 have neRRS : R ≠ w.heap.size := by omega
 have neRSR : w.heap.size ≠ R := by omega
 have HF2 := Lib.hid (z8_ HF1.out zl_)
 have ltFRS : F < w.heap.size := by have := z0_ HF1.out; have := HZ1.out; omega
 have neFRS : F ≠ w.heap.size := by omega
 have neRSF : w.heap.size ≠ F := by omega
 have hZ_ := z3_ w1 zl_
 rw [HZ1.out] at hZ_
 have HRS2 := Lib.hid (hZ_)
 clear hZ_
 have HG2 := Lib.hid (y5_ HG1.out zl_)
 have hg2 := z6_ hg1 zl_
 have geRS : w.heap.size ≤ w.heap.size := by have := hg1.size; omega
 have gnRS : gN ≤ w.heap.size := by have := HG1.out.size; omega
 generalize (w1.alloc zl_) = w2 at *
 generalize w.heap.size = RS at *
 have hs2 := hg2.size
 have hRSw : w.heap.size ≤ RS := hle.1
 have hRSw2 : RS ≤ w.heap.size := hle.2
 refine (zas_ [32, 115, 112, 97, 111, 38, 124] _ 97 rfl _).mono ?_
 rintro e wq ⟨rfl, hwq⟩
 have hwq2 := hwq.symm
 subst hwq2
 rw [show Lib.indexByte [32, 115, 112, 97, 111, 38, 124] 97 = 3 by decide]
 have fa3 := z2_ HS2.out
 have fb3 := z5_ HS2.out
 have fl3 := z0_ HS2.out
 go_wp2_with fail
 clear fa3 fb3 fl3
 have HR3 := Lib.hid (y8_ HR2.out (p := ⟨S, 0, none⟩) sx_ (.string (bs r)))
 have HF3 := Lib.hid (y8_ HF2.out (p := ⟨S, 0, none⟩) sx_ (.string (bs r)))
 have HRS3 := Lib.hid (y8_ HRS2.out (p := ⟨S, 0, none⟩) sx_ (.string (bs r)))
 have HG3 := Lib.hid (x4_ (rs := [S]) HG2.out (x6_ (z1_ _ _) (p := ⟨S, 0, none⟩) (.inl si_) (.string (bs r))) sx_)
 have hg3 : GL [S, R] w (w2.setCell ⟨S, 0, none⟩ (.string (bs r))) := x6_ hg2 (by first | (left; simp; done) | (right; simp; omega)) _
 have HS3 : Hid (SAt (w2.setCell ⟨S, 0, none⟩ (.string (bs r))) S r) := (x7_ HS2.out 0 (.string (bs r)))
 have HZ3 : Hid ((w2.setCell ⟨S, 0, none⟩ (.string (bs r))).heap.size = w2.heap.size) := by show _ = _; simp [World.setCell]
 generalize (w2.setCell ⟨S, 0, none⟩ (.string (bs r))) = w3 at *
 have hs3 := hg3.size
 have HS4 := Lib.hid (z8_ HS3.out (.cells #[.int .u8 3, .string (bs []), .int .i64 0, .slice none 0 0] 25))
 have ltSLB : S < w2.heap.size := by have := z0_ HS3.out; have := HZ3.out; omega
 have neSLB : S ≠ w2.heap.size := by omega
 have neLBS : w2.heap.size ≠ S := by omega
 have HR4 := Lib.hid (z8_ HR3.out (.cells #[.int .u8 3, .string (bs []), .int .i64 0, .slice none 0 0] 25))
 have ltRLB : R < w2.heap.size := by have := z0_ HR3.out; have := HZ3.out; omega
 have neRLB : R ≠ w2.heap.size := by omega
 have neLBR : w2.heap.size ≠ R := by omega
 have HF4 := Lib.hid (z8_ HF3.out (.cells #[.int .u8 3, .string (bs []), .int .i64 0, .slice none 0 0] 25))
 have ltFLB : F < w2.heap.size := by have := z0_ HF3.out; have := HZ3.out; omega
 have neFLB : F ≠ w2.heap.size := by omega
 have neLBF : w2.heap.size ≠ F := by omega
 have HRS4 := Lib.hid (z8_ HRS3.out (.cells #[.int .u8 3, .string (bs []), .int .i64 0, .slice none 0 0] 25))
 have ltRSLB : RS < w2.heap.size := by have := z0_ HRS3.out; have := HZ3.out; omega
 have neRSLB : RS ≠ w2.heap.size := by omega
 have neLBRS : w2.heap.size ≠ RS := by omega
 have hZ_ := z3_ w3 (.cells #[.int .u8 3, .string (bs []), .int .i64 0, .slice none 0 0] 25)
 rw [HZ3.out] at hZ_
 have HLB4 := Lib.hid (hZ_)
 clear hZ_
 have HG4 := Lib.hid (y5_ HG3.out (.cells #[.int .u8 3, .string (bs []), .int .i64 0, .slice none 0 0] 25))
 have hg4 := z6_ hg3 (.cells #[.int .u8 3, .string (bs []), .int .i64 0, .slice none 0 0] 25)
 have geLB : w.heap.size ≤ w2.heap.size := by have := hg3.size; omega
 have gnLB : gN ≤ w2.heap.size := by have := HG3.out.size; omega
 generalize (w3.alloc (.cells #[.int .u8 3, .string (bs []), .int .i64 0, .slice none 0 0] 25)) = w4 at *
 generalize w2.heap.size = LB at *
 have hs4 := hg4.size
 go_wp2_with fail
 refine (zcA_ 59 r om_ _ HG4.out).mono ?_
 rintro e w5 ⟨rfl, hb5⟩
 rw [HV.out]
 have HS5 := Lib.hid (z9_ HS4.out hb5 (z0_ HS4.out))
 have HR5 := Lib.hid (z9_ HR4.out hb5 (z0_ HR4.out))
 have HF5 := Lib.hid (z9_ HF4.out hb5 (z0_ HF4.out))
 have HRS5 := Lib.hid (z9_ HRS4.out hb5 (z0_ HRS4.out))
 have HLB5 := Lib.hid (z9_ HLB4.out hb5 (z0_ HLB4.out))
 have HG5 := Lib.hid (y6_ HG4.out hb5)
 have hg5 := z4_ hb5 hg4
 have hs5 := hg5.size
 have fa4 := z2_ HS5.out
 have fb4 := z5_ HS5.out
 have fl4 := z0_ HS5.out
 have fa5 := z2_ HLB5.out
 have fb5 := z5_ HLB5.out
 have fl5 := z0_ HLB5.out
 have fa6 := z2_ HRS5.out
 have fb6 := z5_ HRS5.out
 have fl6 := z0_ HRS5.out
 have hgq := hg5
 go_wp2
 refine bodyPost_ret (v := .tuple #[.agg #[.int .u8 3, .string (bs []), .int .i64 0, .slice none 0 0], .bool false]) (by simp [results, Tryz.results49, go_sem, zaP_, fa4, fb4, fl4, fa5, fb5, fl5, fa6, fb6, fl6, neSRS, neRSS, neSLB, neLBS, neRSLB, neLBRS]) rfl ⟨gl_, _, _, _, _, _, _, rfl⟩
theorem zkX_ (r : List UInt8) (rm : Nat) (S R F : Nat) (w : World) (nSR : S ≠ R) (nSF : S ≠ F) (nRF : R ≠ F) (gnS : gN ≤ S) (gnR : gN ≤ R) (hS : SAt w S (97 :: r)) (hR : RAt w R ((rm : Int) + 1)) (hF : FAt w F S R) (hrl : r.length ≤ 100000000000) (hrm : (rm : Int) ≤ 1000) (hb0 : ((rm : Int) + 1 == 0) = false) (n : Nat) (s2 : List UInt8) (hc : v7_ 59 r = some (n, s2)) (hG : GOk w) :
  Calls Tryz.prog 49 #[.pointer (some ⟨S, 0, none⟩), .pointer (some ⟨R, 0, none⟩), .pointer (some ⟨F, 0, none⟩)] w (zaw_ S R w (some (.mk 3 [] n [], s2, rm))) := by
 have HG0 := Lib.hid hG
 have nRS := nSR.symm
 have nFS := nSF.symm
 have nFR := nRF.symm
 have HV := Lib.hid (zc2_ hc)
 have hn := (zaF_ hc).2
 have HS0 := Lib.hid hS
 have HR0 := Lib.hid hR
 have HF0 := Lib.hid hF
 clear hS hR hF hG
 go_enter Tryz.func49, Tryz.ntmps49
 have hg0 : GL [S, R] w w := z1_ _ _
 have hs0 : w.heap.size ≤ w.heap.size := Nat.le_refl _
 have fa1 := z2_ HS0.out
 have fb1 := z5_ HS0.out
 have fl1 := z0_ HS0.out
 have fa2 := z2_ HR0.out
 have fb2 := z5_ HR0.out
 have fl2 := z0_ HR0.out
 go_wp2_with fail
 clear fa1 fb1 fl1 fa2 fb2 fl2
 have HS1 := Lib.hid (y8_ HS0.out (p := ⟨R, 0, none⟩) sx_ (.int .i64 rm))
 have HF1 := Lib.hid (y8_ HF0.out (p := ⟨R, 0, none⟩) sx_ (.int .i64 rm))
 have HG1 := Lib.hid (x4_ (rs := [R]) HG0.out (x6_ (z1_ _ _) (p := ⟨R, 0, none⟩) (.inl si_) (.int .i64 rm)) sx_)
 have hg1 : GL [S, R] w (w.setCell ⟨R, 0, none⟩ (.int .i64 rm)) := x6_ hg0 (by first | (left; simp; done) | (right; simp; omega)) _
 have HR1 : Hid (RAt (w.setCell ⟨R, 0, none⟩ (.int .i64 rm)) R rm) := (x7_ HR0.out 0 (.int .i64 rm))
 have HZ1 : Hid ((w.setCell ⟨R, 0, none⟩ (.int .i64 rm)).heap.size = w.heap.size) := by show _ = _; simp [World.setCell]
 generalize (w.setCell ⟨R, 0, none⟩ (.int .i64 rm)) = w1 at *
 have hs1 := hg1.size
 have hle : k0_ w ≤ w.heap.size ∧ w.heap.size ≤ k0_ w := ⟨Nat.le_refl _, Nat.le_refl _⟩
 have HS2 := Lib.hid (z8_ HS1.out zl_)
 have ltSRS : S < w.heap.size := by have := z0_ HS1.out; have := HZ1.out; omega
 have neSRS : S ≠ w.heap.size := by omega
 have neRSS : w.heap.size ≠ S := by omega
 have HR2 := Lib.hid (z8_ HR1.out zl_)
 have ltRRS : R < w.heap.size := by have := z0_ HR1.out; have := HZ1.out; omega
 have neRRS : R ≠ w.heap.size := by omega
 have neRSR : w.heap.size ≠ R := by omega
 have HF2 := Lib.hid (z8_ HF1.out zl_)
 have ltFRS : F < w.heap.size := by have := z0_ HF1.out; have := HZ1.out; omega
 have neFRS : F ≠ w.heap.size := by omega
 have neRSF : w.heap.size ≠ F := by omega
 have hZ_ := z3_ w1 zl_
 rw [HZ1.out] at hZ_
 have HRS2 := Lib.hid (hZ_)
 clear hZ_
 have HG2 := Lib.hid (y5_ HG1.out zl_)
 have hg2 := z6_ hg1 zl_
 have geRS : w.heap.size ≤ w.heap.size := by have := hg1.size; omega
 have gnRS : gN ≤ w.heap.size := by have := HG1.out.size; omega
 generalize (w1.alloc zl_) = w2 at *
 generalize w.heap.size = RS at *
 have hs2 := hg2.size
 have hRSw : w.heap.size ≤ RS := hle.1
 have hRSw2 : RS ≤ w.heap.size := hle.2
 refine (zas_ [32, 115, 112, 97, 111, 38, 124] _ 97 rfl _).mono ?_
 rintro e wq ⟨rfl, hwq⟩
 have hwq2 := hwq.symm
 subst hwq2
 rw [show Lib.indexByte [32, 115, 112, 97, 111, 38, 124] 97 = 3 by decide]
 have fa3 := z2_ HS2.out
 have fb3 := z5_ HS2.out
 have fl3 := z0_ HS2.out
 go_wp2_with fail
 clear fa3 fb3 fl3
 have HR3 := Lib.hid (y8_ HR2.out (p := ⟨S, 0, none⟩) sx_ (.string (bs r)))
 have HF3 := Lib.hid (y8_ HF2.out (p := ⟨S, 0, none⟩) sx_ (.string (bs r)))
 have HRS3 := Lib.hid (y8_ HRS2.out (p := ⟨S, 0, none⟩) sx_ (.string (bs r)))
 have HG3 := Lib.hid (x4_ (rs := [S]) HG2.out (x6_ (z1_ _ _) (p := ⟨S, 0, none⟩) (.inl si_) (.string (bs r))) sx_)
 have hg3 : GL [S, R] w (w2.setCell ⟨S, 0, none⟩ (.string (bs r))) := x6_ hg2 (by first | (left; simp; done) | (right; simp; omega)) _
 have HS3 : Hid (SAt (w2.setCell ⟨S, 0, none⟩ (.string (bs r))) S r) := (x7_ HS2.out 0 (.string (bs r)))
 have HZ3 : Hid ((w2.setCell ⟨S, 0, none⟩ (.string (bs r))).heap.size = w2.heap.size) := by show _ = _; simp [World.setCell]
 generalize (w2.setCell ⟨S, 0, none⟩ (.string (bs r))) = w3 at *
 have hs3 := hg3.size
 have HS4 := Lib.hid (z8_ HS3.out (.cells #[.int .u8 3, .string (bs []), .int .i64 0, .slice none 0 0] 25))
 have ltSLB : S < w2.heap.size := by have := z0_ HS3.out; have := HZ3.out; omega
 have neSLB : S ≠ w2.heap.size := by omega
 have neLBS : w2.heap.size ≠ S := by omega
 have HR4 := Lib.hid (z8_ HR3.out (.cells #[.int .u8 3, .string (bs []), .int .i64 0, .slice none 0 0] 25))
 have ltRLB : R < w2.heap.size := by have := z0_ HR3.out; have := HZ3.out; omega
 have neRLB : R ≠ w2.heap.size := by omega
 have neLBR : w2.heap.size ≠ R := by omega
 have HF4 := Lib.hid (z8_ HF3.out (.cells #[.int .u8 3, .string (bs []), .int .i64 0, .slice none 0 0] 25))
 have ltFLB : F < w2.heap.size := by have := z0_ HF3.out; have := HZ3.out; omega
 have neFLB : F ≠ w2.heap.size := by omega
 have neLBF : w2.heap.size ≠ F := by omega
 have HRS4 := Lib.hid (z8_ HRS3.out (.cells #[.int .u8 3, .string (bs []), .int .i64 0, .slice none 0 0] 25))
 have ltRSLB : RS < w2.heap.size := by have := z0_ HRS3.out; have := HZ3.out; omega
 have neRSLB : RS ≠ w2.heap.size := by omega
 have neLBRS : w2.heap.size ≠ RS := by omega
 have hZ_ := z3_ w3 (.cells #[.int .u8 3, .string (bs []), .int .i64 0, .slice none 0 0] 25)
 rw [HZ3.out] at hZ_
 have HLB4 := Lib.hid (hZ_)
 clear hZ_
 have HG4 := Lib.hid (y5_ HG3.out (.cells #[.int .u8 3, .string (bs []), .int .i64 0, .slice none 0 0] 25))
 have hg4 := z6_ hg3 (.cells #[.int .u8 3, .string (bs []), .int .i64 0, .slice none 0 0] 25)
 have geLB : w.heap.size ≤ w2.heap.size := by have := hg3.size; omega
 have gnLB : gN ≤ w2.heap.size := by have := HG3.out.size; omega
 generalize (w3.alloc (.cells #[.int .u8 3, .string (bs []), .int .i64 0, .slice none 0 0] 25)) = w4 at *
 generalize w2.heap.size = LB at *
 have hs4 := hg4.size
 go_wp2_with fail
 refine (zcA_ 59 r om_ _ HG4.out).mono ?_
 rintro e w5 ⟨rfl, hb5⟩
 rw [HV.out]
 have HS5 := Lib.hid (z9_ HS4.out hb5 (z0_ HS4.out))
 have HR5 := Lib.hid (z9_ HR4.out hb5 (z0_ HR4.out))
 have HF5 := Lib.hid (z9_ HF4.out hb5 (z0_ HF4.out))
 have HRS5 := Lib.hid (z9_ HRS4.out hb5 (z0_ HRS4.out))
 have HLB5 := Lib.hid (z9_ HLB4.out hb5 (z0_ HLB4.out))
 have HG5 := Lib.hid (y6_ HG4.out hb5)
 have hg5 := z4_ hb5 hg4
 have hs5 := hg5.size
 have fa4 := z2_ HS5.out
 have fb4 := z5_ HS5.out
 have fl4 := z0_ HS5.out
 have fa5 := z2_ HLB5.out
 have fb5 := z5_ HLB5.out
 have fl5 := z0_ HLB5.out
 have fa6 := z2_ HRS5.out
 have fb6 := z5_ HRS5.out
 have fl6 := z0_ HRS5.out
 have hgq := hg5
 go_wp2
 refine bodyPost_ret (v := .tuple #[.agg #[.int .u8 3, .string (bs []), .int .i64 n, .slice none 0 0], .bool true]) (by simp [results, Tryz.results49, go_sem, zaP_, fa4, fb4, fl4, fa5, fb5, fl5, fa6, fb6, fl6, neSRS, neRSS, neSLB, neLBS, neRSLB, neLBRS]) rfl ⟨gl_, _, rfl, ?_, ?_, ?_⟩
 · unfold y2_
   exact ⟨by omega, by omega, by simp, by simp, _, rfl, .inl ⟨none, 0, rfl, rfl⟩⟩
 · have hq : SAt ((w5.setCell ⟨LB, 2, none⟩ (.int .i64 n)).setCell ⟨S, 0, none⟩ (.string (bs s2))) S s2 := x7_ (y8_ HS5.out (p := ⟨LB, 2, none⟩) (by first | exact neSLB | (simp; omega)) (.int .i64 n)) 0 (.string (bs s2))
   unfold SAt at hq ⊢
   (repeat' (first | with_reducible exact hq | with_reducible refine z8_ ?_ _ | with_reducible refine zaf_ ?_ _ | with_reducible refine zac_ ?_ | with_reducible refine y8_ ?_ ?_ _ | (simp; done) | (simp; omega) | omega))
 · have hq := HR5.out
   unfold RAt at hq ⊢
   (repeat' (first | with_reducible exact hq | with_reducible refine z8_ ?_ _ | with_reducible refine zaf_ ?_ _ | with_reducible refine zac_ ?_ | with_reducible refine y8_ ?_ ?_ _ | (simp; done) | (simp; omega) | omega))
theorem zkY_ (r : List UInt8) (rm : Nat) (S R F : Nat) (w : World) (nSR : S ≠ R) (nSF : S ≠ F) (nRF : R ≠ F) (gnS : gN ≤ S) (gnR : gN ≤ R) (hS : SAt w S (111 :: r)) (hR : RAt w R ((rm : Int) + 1)) (hF : FAt w F S R) (hrl : r.length ≤ 100000000000) (hrm : (rm : Int) ≤ 1000) (hb0 : ((rm : Int) + 1 == 0) = false) (hc : v7_ 59 r = none) (hG : GOk w) :
  Calls Tryz.prog 49 #[.pointer (some ⟨S, 0, none⟩), .pointer (some ⟨R, 0, none⟩), .pointer (some ⟨F, 0, none⟩)] w (zaw_ S R w (none)) := by
 have HG0 := Lib.hid hG
 have nRS := nSR.symm
 have nFS := nSF.symm
 have nFR := nRF.symm
 have HV := Lib.hid (zb3_ hc)
 have HS0 := Lib.hid hS
 have HR0 := Lib.hid hR
 have HF0 := Lib.hid hF
 clear hS hR hF hG
 go_enter Tryz.func49, Tryz.ntmps49
 have hg0 : GL [S, R] w w := z1_ _ _
 have hs0 : w.heap.size ≤ w.heap.size := Nat.le_refl _
 have fa1 := z2_ HS0.out
 have fb1 := z5_ HS0.out
 have fl1 := z0_ HS0.out
 have fa2 := z2_ HR0.out
 have fb2 := z5_ HR0.out
 have fl2 := z0_ HR0.out
 go_wp2_with fail
 clear fa1 fb1 fl1 fa2 fb2 fl2
 have HS1 := Lib.hid (y8_ HS0.out (p := ⟨R, 0, none⟩) sx_ (.int .i64 rm))
 have HF1 := Lib.hid (y8_ HF0.out (p := ⟨R, 0, none⟩) sx_ (.int .i64 rm))
 have HG1 := Lib.hid (x4_ (rs := [R]) HG0.out (x6_ (z1_ _ _) (p := ⟨R, 0, none⟩) (.inl si_) (.int .i64 rm)) sx_)
 have hg1 : GL [S, R] w (w.setCell ⟨R, 0, none⟩ (.int .i64 rm)) := x6_ hg0 (by first | (left; simp; done) | (right; simp; omega)) _
 have HR1 : Hid (RAt (w.setCell ⟨R, 0, none⟩ (.int .i64 rm)) R rm) := (x7_ HR0.out 0 (.int .i64 rm))
 have HZ1 : Hid ((w.setCell ⟨R, 0, none⟩ (.int .i64 rm)).heap.size = w.heap.size) := by show _ = _; simp [World.setCell]
 generalize (w.setCell ⟨R, 0, none⟩ (.int .i64 rm)) = w1 at *
 have hs1 := hg1.size
 have hle : k0_ w ≤ w.heap.size ∧ w.heap.size ≤ k0_ w := ⟨Nat.le_refl _, Nat.le_refl _⟩
 have HS2 := Lib.hid (z8_ HS1.out zl_)
 have ltSRS : S < w.heap.size := by have := z0_ HS1.out; have := HZ1.out; omega
 have neSRS : S ≠ w.heap.size := by omega
 have neRSS : w.heap.size ≠ S := by omega
 have HR2 := Lib.hid (z8_ HR1.out zl_)
 have ltRRS : R < w.heap.size := by have := z0_ HR1.out; have := HZ1.out; omega
 have neRRS : R ≠ w.heap.size := by omega
 have neRSR : w.heap.size ≠ R := by omega
 have HF2 := Lib.hid (z8_ HF1.out zl_)
 have ltFRS : F < w.heap.size := by have := z0_ HF1.out; have := HZ1.out; omega
 have neFRS : F ≠ w.heap.size := by omega
 have neRSF : w.heap.size ≠ F := by omega
 have hZ_ := z3_ w1 zl_
 rw [HZ1.out] at hZ_
 have HRS2 := Lib.hid (hZ_)
 clear hZ_
 have HG2 := Lib.hid (y5_ HG1.out zl_)
 have hg2 := z6_ hg1 zl_
 have geRS : w.heap.size ≤ w.heap.size := by have := hg1.size; omega
 have gnRS : gN ≤ w.heap.size := by have := HG1.out.size; omega
 generalize (w1.alloc zl_) = w2 at *
 generalize w.heap.size = RS at *
 have hs2 := hg2.size
 have hRSw : w.heap.size ≤ RS := hle.1
 have hRSw2 : RS ≤ w.heap.size := hle.2
 refine (zas_ [32, 115, 112, 97, 111, 38, 124] _ 111 rfl _).mono ?_
 rintro e wq ⟨rfl, hwq⟩
 have hwq2 := hwq.symm
 subst hwq2
 rw [show Lib.indexByte [32, 115, 112, 97, 111, 38, 124] 111 = 4 by decide]
 have fa3 := z2_ HS2.out
 have fb3 := z5_ HS2.out
 have fl3 := z0_ HS2.out
 go_wp2_with fail
 clear fa3 fb3 fl3
 have HR3 := Lib.hid (y8_ HR2.out (p := ⟨S, 0, none⟩) sx_ (.string (bs r)))
 have HF3 := Lib.hid (y8_ HF2.out (p := ⟨S, 0, none⟩) sx_ (.string (bs r)))
 have HRS3 := Lib.hid (y8_ HRS2.out (p := ⟨S, 0, none⟩) sx_ (.string (bs r)))
 have HG3 := Lib.hid (x4_ (rs := [S]) HG2.out (x6_ (z1_ _ _) (p := ⟨S, 0, none⟩) (.inl si_) (.string (bs r))) sx_)
 have hg3 : GL [S, R] w (w2.setCell ⟨S, 0, none⟩ (.string (bs r))) := x6_ hg2 (by first | (left; simp; done) | (right; simp; omega)) _
 have HS3 : Hid (SAt (w2.setCell ⟨S, 0, none⟩ (.string (bs r))) S r) := (x7_ HS2.out 0 (.string (bs r)))
 have HZ3 : Hid ((w2.setCell ⟨S, 0, none⟩ (.string (bs r))).heap.size = w2.heap.size) := by show _ = _; simp [World.setCell]
 generalize (w2.setCell ⟨S, 0, none⟩ (.string (bs r))) = w3 at *
 have hs3 := hg3.size
 have HS4 := Lib.hid (z8_ HS3.out (.cells #[.int .u8 4, .string (bs []), .int .i64 0, .slice none 0 0] 25))
 have ltSLB : S < w2.heap.size := by have := z0_ HS3.out; have := HZ3.out; omega
 have neSLB : S ≠ w2.heap.size := by omega
 have neLBS : w2.heap.size ≠ S := by omega
 have HR4 := Lib.hid (z8_ HR3.out (.cells #[.int .u8 4, .string (bs []), .int .i64 0, .slice none 0 0] 25))
 have ltRLB : R < w2.heap.size := by have := z0_ HR3.out; have := HZ3.out; omega
 have neRLB : R ≠ w2.heap.size := by omega
 have neLBR : w2.heap.size ≠ R := by omega
 have HF4 := Lib.hid (z8_ HF3.out (.cells #[.int .u8 4, .string (bs []), .int .i64 0, .slice none 0 0] 25))
 have ltFLB : F < w2.heap.size := by have := z0_ HF3.out; have := HZ3.out; omega
 have neFLB : F ≠ w2.heap.size := by omega
 have neLBF : w2.heap.size ≠ F := by omega
 have HRS4 := Lib.hid (z8_ HRS3.out (.cells #[.int .u8 4, .string (bs []), .int .i64 0, .slice none 0 0] 25))
 have ltRSLB : RS < w2.heap.size := by have := z0_ HRS3.out; have := HZ3.out; omega
 have neRSLB : RS ≠ w2.heap.size := by omega
 have neLBRS : w2.heap.size ≠ RS := by omega
 have hZ_ := z3_ w3 (.cells #[.int .u8 4, .string (bs []), .int .i64 0, .slice none 0 0] 25)
 rw [HZ3.out] at hZ_
 have HLB4 := Lib.hid (hZ_)
 clear hZ_
 have HG4 := Lib.hid (y5_ HG3.out (.cells #[.int .u8 4, .string (bs []), .int .i64 0, .slice none 0 0] 25))
 have hg4 := z6_ hg3 (.cells #[.int .u8 4, .string (bs []), .int .i64 0, .slice none 0 0] 25)
 have geLB : w.heap.size ≤ w2.heap.size := by have := hg3.size; omega
 have gnLB : gN ≤ w2.heap.size := by have := HG3.out.size; omega
 generalize (w3.alloc (.cells #[.int .u8 4, .string (bs []), .int .i64 0, .slice none 0 0] 25)) = w4 at *
 generalize w2.heap.size = LB at *
 have hs4 := hg4.size
 go_wp2_with fail
 refine (zcA_ 59 r om_ _ HG4.out).mono ?_
 rintro e w5 ⟨rfl, hb5⟩
 rw [HV.out]
 have HS5 := Lib.hid (z9_ HS4.out hb5 (z0_ HS4.out))
 have HR5 := Lib.hid (z9_ HR4.out hb5 (z0_ HR4.out))
 have HF5 := Lib.hid (z9_ HF4.out hb5 (z0_ HF4.out))
 have HRS5 := Lib.hid (z9_ HRS4.out hb5 (z0_ HRS4.out))
 have HLB5 := Lib.hid (z9_ HLB4.out hb5 (z0_ HLB4.out))
 have HG5 := Lib.hid (y6_ HG4.out hb5)
 have hg5 := z4_ hb5 hg4
 have hs5 := hg5.size
 have fa4 := z2_ HS5.out
 have fb4 := z5_ HS5.out
 have fl4 := z0_ HS5.out
 have fa5 := z2_ HLB5.out
 have fb5 := z5_ HLB5.out
 have fl5 := z0_ HLB5.out
 have fa6 := z2_ HRS5.out
 have fb6 := z5_ HRS5.out
 have fl6 := z0_ HRS5.out
 have hgq := hg5
 go_wp2
 refine bodyPost_ret (v := .tuple #[.agg #[.int .u8 4, .string (bs []), .int .i64 0, .slice none 0 0], .bool false]) (by simp [results, Tryz.results49, go_sem, zaP_, fa4, fb4, fl4, fa5, fb5, fl5, fa6, fb6, fl6, neSRS, neRSS, neSLB, neLBS, neRSLB, neLBRS]) rfl ⟨gl_, _, _, _, _, _, _, rfl⟩
theorem zkZ_ (r : List UInt8) (rm : Nat) (S R F : Nat) (w : World) (nSR : S ≠ R) (nSF : S ≠ F) (nRF : R ≠ F) (gnS : gN ≤ S) (gnR : gN ≤ R) (hS : SAt w S (111 :: r)) (hR : RAt w R ((rm : Int) + 1)) (hF : FAt w F S R) (hrl : r.length ≤ 100000000000) (hrm : (rm : Int) ≤ 1000) (hb0 : ((rm : Int) + 1 == 0) = false) (n : Nat) (s2 : List UInt8) (hc : v7_ 59 r = some (n, s2)) (hG : GOk w) :
  Calls Tryz.prog 49 #[.pointer (some ⟨S, 0, none⟩), .pointer (some ⟨R, 0, none⟩), .pointer (some ⟨F, 0, none⟩)] w (zaw_ S R w (some (.mk 4 [] n [], s2, rm))) := by
 have HG0 := Lib.hid hG
 have nRS := nSR.symm
 have nFS := nSF.symm
 have nFR := nRF.symm
 have HV := Lib.hid (zc2_ hc)
 have hn := (zaF_ hc).2
 have HS0 := Lib.hid hS
 have HR0 := Lib.hid hR
 have HF0 := Lib.hid hF
 clear hS hR hF hG
 go_enter Tryz.func49, Tryz.ntmps49
 have hg0 : GL [S, R] w w := z1_ _ _
 have hs0 : w.heap.size ≤ w.heap.size := Nat.le_refl _
 have fa1 := z2_ HS0.out
 have fb1 := z5_ HS0.out
 have fl1 := z0_ HS0.out
 have fa2 := z2_ HR0.out
 have fb2 := z5_ HR0.out
 have fl2 := z0_ HR0.out
 go_wp2_with fail
 clear fa1 fb1 fl1 fa2 fb2 fl2
 have HS1 := Lib.hid (y8_ HS0.out (p := ⟨R, 0, none⟩) sx_ (.int .i64 rm))
 have HF1 := Lib.hid (y8_ HF0.out (p := ⟨R, 0, none⟩) sx_ (.int .i64 rm))
 have HG1 := Lib.hid (x4_ (rs := [R]) HG0.out (x6_ (z1_ _ _) (p := ⟨R, 0, none⟩) (.inl si_) (.int .i64 rm)) sx_)
 have hg1 : GL [S, R] w (w.setCell ⟨R, 0, none⟩ (.int .i64 rm)) := x6_ hg0 (by first | (left; simp; done) | (right; simp; omega)) _
 have HR1 : Hid (RAt (w.setCell ⟨R, 0, none⟩ (.int .i64 rm)) R rm) := (x7_ HR0.out 0 (.int .i64 rm))
 have HZ1 : Hid ((w.setCell ⟨R, 0, none⟩ (.int .i64 rm)).heap.size = w.heap.size) := by show _ = _; simp [World.setCell]
 generalize (w.setCell ⟨R, 0, none⟩ (.int .i64 rm)) = w1 at *
 have hs1 := hg1.size
 have hle : k0_ w ≤ w.heap.size ∧ w.heap.size ≤ k0_ w := ⟨Nat.le_refl _, Nat.le_refl _⟩
 have HS2 := Lib.hid (z8_ HS1.out zl_)
 have ltSRS : S < w.heap.size := by have := z0_ HS1.out; have := HZ1.out; omega
 have neSRS : S ≠ w.heap.size := by omega
 have neRSS : w.heap.size ≠ S := by omega
 have HR2 := Lib.hid (z8_ HR1.out zl_)
 have ltRRS : R < w.heap.size := by have := z0_ HR1.out; have := HZ1.out; omega
 have neRRS : R ≠ w.heap.size := by omega
 have neRSR : w.heap.size ≠ R := by omega
 have HF2 := Lib.hid (z8_ HF1.out zl_)
 have ltFRS : F < w.heap.size := by have := z0_ HF1.out; have := HZ1.out; omega
 have neFRS : F ≠ w.heap.size := by omega
 have neRSF : w.heap.size ≠ F := by omega
 have hZ_ := z3_ w1 zl_
 rw [HZ1.out] at hZ_
 have HRS2 := Lib.hid (hZ_)
 clear hZ_
 have HG2 := Lib.hid (y5_ HG1.out zl_)
 have hg2 := z6_ hg1 zl_
 have geRS : w.heap.size ≤ w.heap.size := by have := hg1.size; omega
 have gnRS : gN ≤ w.heap.size := by have := HG1.out.size; omega
 generalize (w1.alloc zl_) = w2 at *
 generalize w.heap.size = RS at *
 have hs2 := hg2.size
 have hRSw : w.heap.size ≤ RS := hle.1
 have hRSw2 : RS ≤ w.heap.size := hle.2
 refine (zas_ [32, 115, 112, 97, 111, 38, 124] _ 111 rfl _).mono ?_
 rintro e wq ⟨rfl, hwq⟩
 have hwq2 := hwq.symm
 subst hwq2
 rw [show Lib.indexByte [32, 115, 112, 97, 111, 38, 124] 111 = 4 by decide]
 have fa3 := z2_ HS2.out
 have fb3 := z5_ HS2.out
 have fl3 := z0_ HS2.out
 go_wp2_with fail
 clear fa3 fb3 fl3
 have HR3 := Lib.hid (y8_ HR2.out (p := ⟨S, 0, none⟩) sx_ (.string (bs r)))
 have HF3 := Lib.hid (y8_ HF2.out (p := ⟨S, 0, none⟩) sx_ (.string (bs r)))
 have HRS3 := Lib.hid (y8_ HRS2.out (p := ⟨S, 0, none⟩) sx_ (.string (bs r)))
 have HG3 := Lib.hid (x4_ (rs := [S]) HG2.out (x6_ (z1_ _ _) (p := ⟨S, 0, none⟩) (.inl si_) (.string (bs r))) sx_)
 have hg3 : GL [S, R] w (w2.setCell ⟨S, 0, none⟩ (.string (bs r))) := x6_ hg2 (by first | (left; simp; done) | (right; simp; omega)) _
 have HS3 : Hid (SAt (w2.setCell ⟨S, 0, none⟩ (.string (bs r))) S r) := (x7_ HS2.out 0 (.string (bs r)))
 have HZ3 : Hid ((w2.setCell ⟨S, 0, none⟩ (.string (bs r))).heap.size = w2.heap.size) := by show _ = _; simp [World.setCell]
 generalize (w2.setCell ⟨S, 0, none⟩ (.string (bs r))) = w3 at *
 have hs3 := hg3.size
 have HS4 := Lib.hid (z8_ HS3.out (.cells #[.int .u8 4, .string (bs []), .int .i64 0, .slice none 0 0] 25))
 have ltSLB : S < w2.heap.size := by have := z0_ HS3.out; have := HZ3.out; omega
 have neSLB : S ≠ w2.heap.size := by omega
 have neLBS : w2.heap.size ≠ S := by omega
 have HR4 := Lib.hid (z8_ HR3.out (.cells #[.int .u8 4, .string (bs []), .int .i64 0, .slice none 0 0] 25))
 have ltRLB : R < w2.heap.size := by have := z0_ HR3.out; have := HZ3.out; omega
 have neRLB : R ≠ w2.heap.size := by omega
 have neLBR : w2.heap.size ≠ R := by omega
 have HF4 := Lib.hid (z8_ HF3.out (.cells #[.int .u8 4, .string (bs []), .int .i64 0, .slice none 0 0] 25))
 have ltFLB : F < w2.heap.size := by have := z0_ HF3.out; have := HZ3.out; omega
 have neFLB : F ≠ w2.heap.size := by omega
 have neLBF : w2.heap.size ≠ F := by omega
 have HRS4 := Lib.hid (z8_ HRS3.out (.cells #[.int .u8 4, .string (bs []), .int .i64 0, .slice none 0 0] 25))
 have ltRSLB : RS < w2.heap.size := by have := z0_ HRS3.out; have := HZ3.out; omega
 have neRSLB : RS ≠ w2.heap.size := by omega
 have neLBRS : w2.heap.size ≠ RS := by omega
 have hZ_ := z3_ w3 (.cells #[.int .u8 4, .string (bs []), .int .i64 0, .slice none 0 0] 25)
 rw [HZ3.out] at hZ_
 have HLB4 := Lib.hid (hZ_)
 clear hZ_
 have HG4 := Lib.hid (y5_ HG3.out (.cells #[.int .u8 4, .string (bs []), .int .i64 0, .slice none 0 0] 25))
 have hg4 := z6_ hg3 (.cells #[.int .u8 4, .string (bs []), .int .i64 0, .slice none 0 0] 25)
 have geLB : w.heap.size ≤ w2.heap.size := by have := hg3.size; omega
 have gnLB : gN ≤ w2.heap.size := by have := HG3.out.size; omega
 generalize (w3.alloc (.cells #[.int .u8 4, .string (bs []), .int .i64 0, .slice none 0 0] 25)) = w4 at *
 generalize w2.heap.size = LB at *
 have hs4 := hg4.size
 go_wp2_with fail
 refine (zcA_ 59 r om_ _ HG4.out).mono ?_
 rintro e w5 ⟨rfl, hb5⟩
 rw [HV.out]
 have HS5 := Lib.hid (z9_ HS4.out hb5 (z0_ HS4.out))
 have HR5 := Lib.hid (z9_ HR4.out hb5 (z0_ HR4.out))
 have HF5 := Lib.hid (z9_ HF4.out hb5 (z0_ HF4.out))
 have HRS5 := Lib.hid (z9_ HRS4.out hb5 (z0_ HRS4.out))
 have HLB5 := Lib.hid (z9_ HLB4.out hb5 (z0_ HLB4.out))
 have HG5 := Lib.hid (y6_ HG4.out hb5)
 have hg5 := z4_ hb5 hg4
 have hs5 := hg5.size
 have fa4 := z2_ HS5.out
 have fb4 := z5_ HS5.out
 have fl4 := z0_ HS5.out
 have fa5 := z2_ HLB5.out
 have fb5 := z5_ HLB5.out
 have fl5 := z0_ HLB5.out
 have fa6 := z2_ HRS5.out
 have fb6 := z5_ HRS5.out
 have fl6 := z0_ HRS5.out
 have hgq := hg5
 go_wp2
 refine bodyPost_ret (v := .tuple #[.agg #[.int .u8 4, .string (bs []), .int .i64 n, .slice none 0 0], .bool true]) (by simp [results, Tryz.results49, go_sem, zaP_, fa4, fb4, fl4, fa5, fb5, fl5, fa6, fb6, fl6, neSRS, neRSS, neSLB, neLBS, neRSLB, neLBRS]) rfl ⟨gl_, _, rfl, ?_, ?_, ?_⟩
 · unfold y2_
   exact ⟨by omega, by omega, by simp, by simp, _, rfl, .inl ⟨none, 0, rfl, rfl⟩⟩
 · have hq : SAt ((w5.setCell ⟨LB, 2, none⟩ (.int .i64 n)).setCell ⟨S, 0, none⟩ (.string (bs s2))) S s2 := x7_ (y8_ HS5.out (p := ⟨LB, 2, none⟩) (by first | exact neSLB | (simp; omega)) (.int .i64 n)) 0 (.string (bs s2))
   unfold SAt at hq ⊢
   (repeat' (first | with_reducible exact hq | with_reducible refine z8_ ?_ _ | with_reducible refine zaf_ ?_ _ | with_reducible refine zac_ ?_ | with_reducible refine y8_ ?_ ?_ _ | (simp; done) | (simp; omega) | omega))
 · have hq := HR5.out
   unfold RAt at hq ⊢
   (repeat' (first | with_reducible exact hq | with_reducible refine z8_ ?_ _ | with_reducible refine zaf_ ?_ _ | with_reducible refine zac_ ?_ | with_reducible refine y8_ ?_ ?_ _ | (simp; done) | (simp; omega) | omega))
theorem zk0_ (r : List UInt8) (rm : Nat) (S R F : Nat) (w : World) (nSR : S ≠ R) (nSF : S ≠ F) (nRF : R ≠ F) (gnS : gN ≤ S) (gnR : gN ≤ R) (hS : SAt w S (38 :: r)) (hR : RAt w R ((rm : Int) + 1)) (hF : FAt w F S R) (hrl : r.length ≤ 100000000000) (hrm : (rm : Int) ≤ 1000) (hb0 : ((rm : Int) + 1 == 0) = false) (hc : v7_ 58 r = none) (hG : GOk w) :
  Calls Tryz.prog 49 #[.pointer (some ⟨S, 0, none⟩), .pointer (some ⟨R, 0, none⟩), .pointer (some ⟨F, 0, none⟩)] w (zaw_ S R w none) := by
 have HG0 := Lib.hid hG
 have nRS := nSR.symm
 have nFS := nSF.symm
 have nFR := nRF.symm
 have HV := Lib.hid (zb3_ hc)
 have HS0 := Lib.hid hS
 have HR0 := Lib.hid hR
 have HF0 := Lib.hid hF
 clear hS hR hF hG
 go_enter Tryz.func49, Tryz.ntmps49
 have hg0 : GL [S, R] w w := z1_ _ _
 have hs0 : w.heap.size ≤ w.heap.size := Nat.le_refl _
 have fa1 := z2_ HS0.out
 have fb1 := z5_ HS0.out
 have fl1 := z0_ HS0.out
 have fa2 := z2_ HR0.out
 have fb2 := z5_ HR0.out
 have fl2 := z0_ HR0.out
 go_wp2_with fail
 clear fa1 fb1 fl1 fa2 fb2 fl2
 have HS1 := Lib.hid (y8_ HS0.out (p := ⟨R, 0, none⟩) sx_ (.int .i64 rm))
 have HF1 := Lib.hid (y8_ HF0.out (p := ⟨R, 0, none⟩) sx_ (.int .i64 rm))
 have HG1 := Lib.hid (x4_ (rs := [R]) HG0.out (x6_ (z1_ _ _) (p := ⟨R, 0, none⟩) (.inl si_) (.int .i64 rm)) sx_)
 have hg1 : GL [S, R] w (w.setCell ⟨R, 0, none⟩ (.int .i64 rm)) := x6_ hg0 (by first | (left; simp; done) | (right; simp; omega)) _
 have HR1 : Hid (RAt (w.setCell ⟨R, 0, none⟩ (.int .i64 rm)) R rm) := (x7_ HR0.out 0 (.int .i64 rm))
 have HZ1 : Hid ((w.setCell ⟨R, 0, none⟩ (.int .i64 rm)).heap.size = w.heap.size) := by show _ = _; simp [World.setCell]
 generalize (w.setCell ⟨R, 0, none⟩ (.int .i64 rm)) = w1 at *
 have hs1 := hg1.size
 have hle : k0_ w ≤ w.heap.size ∧ w.heap.size ≤ k0_ w := ⟨Nat.le_refl _, Nat.le_refl _⟩
 have HS2 := Lib.hid (z8_ HS1.out zl_)
 have ltSRS : S < w.heap.size := by have := z0_ HS1.out; have := HZ1.out; omega
 have neSRS : S ≠ w.heap.size := by omega
 have neRSS : w.heap.size ≠ S := by omega
 have HR2 := Lib.hid (z8_ HR1.out zl_)
 have ltRRS : R < w.heap.size := by have := z0_ HR1.out; have := HZ1.out; omega
 have neRRS : R ≠ w.heap.size := by omega
 have neRSR : w.heap.size ≠ R := by omega
 have HF2 := Lib.hid (z8_ HF1.out zl_)
 have ltFRS : F < w.heap.size := by have := z0_ HF1.out; have := HZ1.out; omega
 have neFRS : F ≠ w.heap.size := by omega
 have neRSF : w.heap.size ≠ F := by omega
 have hZ_ := z3_ w1 zl_
 rw [HZ1.out] at hZ_
 have HRS2 := Lib.hid (hZ_)
 clear hZ_
 have HG2 := Lib.hid (y5_ HG1.out zl_)
 have hg2 := z6_ hg1 zl_
 have geRS : w.heap.size ≤ w.heap.size := by have := hg1.size; omega
 have gnRS : gN ≤ w.heap.size := by have := HG1.out.size; omega
 generalize (w1.alloc zl_) = w2 at *
 generalize w.heap.size = RS at *
 have hs2 := hg2.size
 have hRSw : w.heap.size ≤ RS := hle.1
 have hRSw2 : RS ≤ w.heap.size := hle.2
 refine (zas_ [32, 115, 112, 97, 111, 38, 124] _ 38 rfl _).mono ?_
 rintro e wq ⟨rfl, hwq⟩
 have hwq2 := hwq.symm
 subst hwq2
 rw [show Lib.indexByte [32, 115, 112, 97, 111, 38, 124] 38 = 5 by decide]
 have fa3 := z2_ HS2.out
 have fb3 := z5_ HS2.out
 have fl3 := z0_ HS2.out
 go_wp2_with fail
 clear fa3 fb3 fl3
 have HR3 := Lib.hid (y8_ HR2.out (p := ⟨S, 0, none⟩) sx_ (.string (bs r)))
 have HF3 := Lib.hid (y8_ HF2.out (p := ⟨S, 0, none⟩) sx_ (.string (bs r)))
 have HRS3 := Lib.hid (y8_ HRS2.out (p := ⟨S, 0, none⟩) sx_ (.string (bs r)))
 have HG3 := Lib.hid (x4_ (rs := [S]) HG2.out (x6_ (z1_ _ _) (p := ⟨S, 0, none⟩) (.inl si_) (.string (bs r))) sx_)
 have hg3 : GL [S, R] w (w2.setCell ⟨S, 0, none⟩ (.string (bs r))) := x6_ hg2 (by first | (left; simp; done) | (right; simp; omega)) _
 have HS3 : Hid (SAt (w2.setCell ⟨S, 0, none⟩ (.string (bs r))) S r) := (x7_ HS2.out 0 (.string (bs r)))
 have HZ3 : Hid ((w2.setCell ⟨S, 0, none⟩ (.string (bs r))).heap.size = w2.heap.size) := by show _ = _; simp [World.setCell]
 generalize (w2.setCell ⟨S, 0, none⟩ (.string (bs r))) = w3 at *
 have hs3 := hg3.size
 have HS4 := Lib.hid (z8_ HS3.out (.cells #[.int .u8 5, .string (bs []), .int .i64 0, .slice none 0 0] 25))
 have ltSLB : S < w2.heap.size := by have := z0_ HS3.out; have := HZ3.out; omega
 have neSLB : S ≠ w2.heap.size := by omega
 have neLBS : w2.heap.size ≠ S := by omega
 have HR4 := Lib.hid (z8_ HR3.out (.cells #[.int .u8 5, .string (bs []), .int .i64 0, .slice none 0 0] 25))
 have ltRLB : R < w2.heap.size := by have := z0_ HR3.out; have := HZ3.out; omega
 have neRLB : R ≠ w2.heap.size := by omega
 have neLBR : w2.heap.size ≠ R := by omega
 have HF4 := Lib.hid (z8_ HF3.out (.cells #[.int .u8 5, .string (bs []), .int .i64 0, .slice none 0 0] 25))
 have ltFLB : F < w2.heap.size := by have := z0_ HF3.out; have := HZ3.out; omega
 have neFLB : F ≠ w2.heap.size := by omega
 have neLBF : w2.heap.size ≠ F := by omega
 have HRS4 := Lib.hid (z8_ HRS3.out (.cells #[.int .u8 5, .string (bs []), .int .i64 0, .slice none 0 0] 25))
 have ltRSLB : RS < w2.heap.size := by have := z0_ HRS3.out; have := HZ3.out; omega
 have neRSLB : RS ≠ w2.heap.size := by omega
 have neLBRS : w2.heap.size ≠ RS := by omega
 have hZ_ := z3_ w3 (.cells #[.int .u8 5, .string (bs []), .int .i64 0, .slice none 0 0] 25)
 rw [HZ3.out] at hZ_
 have HLB4 := Lib.hid (hZ_)
 clear hZ_
 have HG4 := Lib.hid (y5_ HG3.out (.cells #[.int .u8 5, .string (bs []), .int .i64 0, .slice none 0 0] 25))
 have hg4 := z6_ hg3 (.cells #[.int .u8 5, .string (bs []), .int .i64 0, .slice none 0 0] 25)
 have geLB : w.heap.size ≤ w2.heap.size := by have := hg3.size; omega
 have gnLB : gN ≤ w2.heap.size := by have := HG3.out.size; omega
 generalize (w3.alloc (.cells #[.int .u8 5, .string (bs []), .int .i64 0, .slice none 0 0] 25)) = w4 at *
 generalize w2.heap.size = LB at *
 have hs4 := hg4.size
 go_wp2_with fail
 refine (zcA_ 58 r om_ _ HG4.out).mono ?_
 rintro e w5 ⟨rfl, hb5⟩
 rw [HV.out]
 have HS5 := Lib.hid (z9_ HS4.out hb5 (z0_ HS4.out))
 have HR5 := Lib.hid (z9_ HR4.out hb5 (z0_ HR4.out))
 have HF5 := Lib.hid (z9_ HF4.out hb5 (z0_ HF4.out))
 have HRS5 := Lib.hid (z9_ HRS4.out hb5 (z0_ HRS4.out))
 have HLB5 := Lib.hid (z9_ HLB4.out hb5 (z0_ HLB4.out))
 have HG5 := Lib.hid (y6_ HG4.out hb5)
 have hg5 := z4_ hb5 hg4
 have hs5 := hg5.size
 have fa4 := z2_ HS5.out
 have fb4 := z5_ HS5.out
 have fl4 := z0_ HS5.out
 have fa5 := z2_ HLB5.out
 have fb5 := z5_ HLB5.out
 have fl5 := z0_ HLB5.out
 have fa6 := z2_ HRS5.out
 have fb6 := z5_ HRS5.out
 have fl6 := z0_ HRS5.out
 have hgq := hg5
 go_wp2
 go_loopw [8, 9, 60] (fun _ _ iv wr => iv = .int .i64 0 ∧ Hid (wr = w5.setCell ⟨S, 0, none⟩ (.string (bs [])))) (fun _ _ _ _ => 0)
 case atStart => exact ⟨rfl, rfl⟩
 case round =>
  obtain ⟨rfl, hwr⟩ := hrel
  have hwr2 := hwr.out
  subst hwr2
  go_wp2
  refine bodyPost_ret (v := .tuple #[.agg #[.int .u8 5, .string (bs []), .int .i64 0, .slice none 0 0], .bool false]) (by simp [results, Tryz.results49, go_sem, zaP_, fa4, fb4, fl4, fa5, fb5, fl5, fa6, fb6, fl6, neSRS, neRSS, neSLB, neLBS, neRSLB, neLBRS]) rfl ⟨gl_, _, _, _, _, _, _, rfl⟩
theorem zk1_ (r : List UInt8) (rm : Nat) (S R F : Nat) (w : World) (nSR : S ≠ R) (nSF : S ≠ F) (nRF : R ≠ F) (gnS : gN ≤ S) (gnR : gN ≤ R) (hS : SAt w S (124 :: r)) (hR : RAt w R ((rm : Int) + 1)) (hF : FAt w F S R) (hrl : r.length ≤ 100000000000) (hrm : (rm : Int) ≤ 1000) (hb0 : ((rm : Int) + 1 == 0) = false) (hc : v7_ 58 r = none) (hG : GOk w) :
  Calls Tryz.prog 49 #[.pointer (some ⟨S, 0, none⟩), .pointer (some ⟨R, 0, none⟩), .pointer (some ⟨F, 0, none⟩)] w (zaw_ S R w none) := by
 have HG0 := Lib.hid hG
 have nRS := nSR.symm
 have nFS := nSF.symm
 have nFR := nRF.symm
 have HV := Lib.hid (zb3_ hc)
 have HS0 := Lib.hid hS
 have HR0 := Lib.hid hR
 have HF0 := Lib.hid hF
 clear hS hR hF hG
 go_enter Tryz.func49, Tryz.ntmps49
 have hg0 : GL [S, R] w w := z1_ _ _
 have hs0 : w.heap.size ≤ w.heap.size := Nat.le_refl _
 have fa1 := z2_ HS0.out
 have fb1 := z5_ HS0.out
 have fl1 := z0_ HS0.out
 have fa2 := z2_ HR0.out
 have fb2 := z5_ HR0.out
 have fl2 := z0_ HR0.out
 go_wp2_with fail
 clear fa1 fb1 fl1 fa2 fb2 fl2
 have HS1 := Lib.hid (y8_ HS0.out (p := ⟨R, 0, none⟩) sx_ (.int .i64 rm))
 have HF1 := Lib.hid (y8_ HF0.out (p := ⟨R, 0, none⟩) sx_ (.int .i64 rm))
 have HG1 := Lib.hid (x4_ (rs := [R]) HG0.out (x6_ (z1_ _ _) (p := ⟨R, 0, none⟩) (.inl si_) (.int .i64 rm)) sx_)
 have hg1 : GL [S, R] w (w.setCell ⟨R, 0, none⟩ (.int .i64 rm)) := x6_ hg0 (by first | (left; simp; done) | (right; simp; omega)) _
 have HR1 : Hid (RAt (w.setCell ⟨R, 0, none⟩ (.int .i64 rm)) R rm) := (x7_ HR0.out 0 (.int .i64 rm))
 have HZ1 : Hid ((w.setCell ⟨R, 0, none⟩ (.int .i64 rm)).heap.size = w.heap.size) := by show _ = _; simp [World.setCell]
 generalize (w.setCell ⟨R, 0, none⟩ (.int .i64 rm)) = w1 at *
 have hs1 := hg1.size
 have hle : k0_ w ≤ w.heap.size ∧ w.heap.size ≤ k0_ w := ⟨Nat.le_refl _, Nat.le_refl _⟩
 have HS2 := Lib.hid (z8_ HS1.out zl_)
 have ltSRS : S < w.heap.size := by have := z0_ HS1.out; have := HZ1.out; omega
 have neSRS : S ≠ w.heap.size := by omega
 have neRSS : w.heap.size ≠ S := by omega
 have HR2 := Lib.hid (z8_ HR1.out zl_)
 have ltRRS : R < w.heap.size := by have := z0_ HR1.out; have := HZ1.out; omega
 have neRRS : R ≠ w.heap.size := by omega
 have neRSR : w.heap.size ≠ R := by omega
 have HF2 := Lib.hid (z8_ HF1.out zl_)
 have ltFRS : F < w.heap.size := by have := z0_ HF1.out; have := HZ1.out; omega
 have neFRS : F ≠ w.heap.size := by omega
 have neRSF : w.heap.size ≠ F := by omega
 have hZ_ := z3_ w1 zl_
 rw [HZ1.out] at hZ_
 have HRS2 := Lib.hid (hZ_)
 clear hZ_
 have HG2 := Lib.hid (y5_ HG1.out zl_)
 have hg2 := z6_ hg1 zl_
 have geRS : w.heap.size ≤ w.heap.size := by have := hg1.size; omega
 have gnRS : gN ≤ w.heap.size := by have := HG1.out.size; omega
 generalize (w1.alloc zl_) = w2 at *
 generalize w.heap.size = RS at *
 have hs2 := hg2.size
 have hRSw : w.heap.size ≤ RS := hle.1
 have hRSw2 : RS ≤ w.heap.size := hle.2
 refine (zas_ [32, 115, 112, 97, 111, 38, 124] _ 124 rfl _).mono ?_
 rintro e wq ⟨rfl, hwq⟩
 have hwq2 := hwq.symm
 subst hwq2
 rw [show Lib.indexByte [32, 115, 112, 97, 111, 38, 124] 124 = 6 by decide]
 have fa3 := z2_ HS2.out
 have fb3 := z5_ HS2.out
 have fl3 := z0_ HS2.out
 go_wp2_with fail
 clear fa3 fb3 fl3
 have HR3 := Lib.hid (y8_ HR2.out (p := ⟨S, 0, none⟩) sx_ (.string (bs r)))
 have HF3 := Lib.hid (y8_ HF2.out (p := ⟨S, 0, none⟩) sx_ (.string (bs r)))
 have HRS3 := Lib.hid (y8_ HRS2.out (p := ⟨S, 0, none⟩) sx_ (.string (bs r)))
 have HG3 := Lib.hid (x4_ (rs := [S]) HG2.out (x6_ (z1_ _ _) (p := ⟨S, 0, none⟩) (.inl si_) (.string (bs r))) sx_)
 have hg3 : GL [S, R] w (w2.setCell ⟨S, 0, none⟩ (.string (bs r))) := x6_ hg2 (by first | (left; simp; done) | (right; simp; omega)) _
 have HS3 : Hid (SAt (w2.setCell ⟨S, 0, none⟩ (.string (bs r))) S r) := (x7_ HS2.out 0 (.string (bs r)))
 have HZ3 : Hid ((w2.setCell ⟨S, 0, none⟩ (.string (bs r))).heap.size = w2.heap.size) := by show _ = _; simp [World.setCell]
 generalize (w2.setCell ⟨S, 0, none⟩ (.string (bs r))) = w3 at *
 have hs3 := hg3.size
 have HS4 := Lib.hid (z8_ HS3.out (.cells #[.int .u8 6, .string (bs []), .int .i64 0, .slice none 0 0] 25))
 have ltSLB : S < w2.heap.size := by have := z0_ HS3.out; have := HZ3.out; omega
 have neSLB : S ≠ w2.heap.size := by omega
 have neLBS : w2.heap.size ≠ S := by omega
 have HR4 := Lib.hid (z8_ HR3.out (.cells #[.int .u8 6, .string (bs []), .int .i64 0, .slice none 0 0] 25))
 have ltRLB : R < w2.heap.size := by have := z0_ HR3.out; have := HZ3.out; omega
 have neRLB : R ≠ w2.heap.size := by omega
 have neLBR : w2.heap.size ≠ R := by omega
 have HF4 := Lib.hid (z8_ HF3.out (.cells #[.int .u8 6, .string (bs []), .int .i64 0, .slice none 0 0] 25))
 have ltFLB : F < w2.heap.size := by have := z0_ HF3.out; have := HZ3.out; omega
 have neFLB : F ≠ w2.heap.size := by omega
 have neLBF : w2.heap.size ≠ F := by omega
 have HRS4 := Lib.hid (z8_ HRS3.out (.cells #[.int .u8 6, .string (bs []), .int .i64 0, .slice none 0 0] 25))
 have ltRSLB : RS < w2.heap.size := by have := z0_ HRS3.out; have := HZ3.out; omega
 have neRSLB : RS ≠ w2.heap.size := by omega
 have neLBRS : w2.heap.size ≠ RS := by omega
 have hZ_ := z3_ w3 (.cells #[.int .u8 6, .string (bs []), .int .i64 0, .slice none 0 0] 25)
 rw [HZ3.out] at hZ_
 have HLB4 := Lib.hid (hZ_)
 clear hZ_
 have HG4 := Lib.hid (y5_ HG3.out (.cells #[.int .u8 6, .string (bs []), .int .i64 0, .slice none 0 0] 25))
 have hg4 := z6_ hg3 (.cells #[.int .u8 6, .string (bs []), .int .i64 0, .slice none 0 0] 25)
 have geLB : w.heap.size ≤ w2.heap.size := by have := hg3.size; omega
 have gnLB : gN ≤ w2.heap.size := by have := HG3.out.size; omega
 generalize (w3.alloc (.cells #[.int .u8 6, .string (bs []), .int .i64 0, .slice none 0 0] 25)) = w4 at *
 generalize w2.heap.size = LB at *
 have hs4 := hg4.size
 go_wp2_with fail
 refine (zcA_ 58 r om_ _ HG4.out).mono ?_
 rintro e w5 ⟨rfl, hb5⟩
 rw [HV.out]
 have HS5 := Lib.hid (z9_ HS4.out hb5 (z0_ HS4.out))
 have HR5 := Lib.hid (z9_ HR4.out hb5 (z0_ HR4.out))
 have HF5 := Lib.hid (z9_ HF4.out hb5 (z0_ HF4.out))
 have HRS5 := Lib.hid (z9_ HRS4.out hb5 (z0_ HRS4.out))
 have HLB5 := Lib.hid (z9_ HLB4.out hb5 (z0_ HLB4.out))
 have HG5 := Lib.hid (y6_ HG4.out hb5)
 have hg5 := z4_ hb5 hg4
 have hs5 := hg5.size
 have fa4 := z2_ HS5.out
 have fb4 := z5_ HS5.out
 have fl4 := z0_ HS5.out
 have fa5 := z2_ HLB5.out
 have fb5 := z5_ HLB5.out
 have fl5 := z0_ HLB5.out
 have fa6 := z2_ HRS5.out
 have fb6 := z5_ HRS5.out
 have fl6 := z0_ HRS5.out
 have hgq := hg5
 go_wp2
 go_loopw [8, 9, 60] (fun _ _ iv wr => iv = .int .i64 0 ∧ Hid (wr = w5.setCell ⟨S, 0, none⟩ (.string (bs [])))) (fun _ _ _ _ => 0)
 case atStart => exact ⟨rfl, rfl⟩
 case round =>
  obtain ⟨rfl, hwr⟩ := hrel
  have hwr2 := hwr.out
  subst hwr2
  go_wp2
  refine bodyPost_ret (v := .tuple #[.agg #[.int .u8 6, .string (bs []), .int .i64 0, .slice none 0 0], .bool false]) (by simp [results, Tryz.results49, go_sem, zaP_, fa4, fb4, fl4, fa5, fb5, fl5, fa6, fb6, fl6, neSRS, neRSS, neSLB, neLBS, neRSLB, neLBRS]) rfl ⟨gl_, _, _, _, _, _, _, rfl⟩
def KSt (S R F RS LB : Nat) (k : Int) (w : World) (f m : Nat) (tot : Option (List LT × List UInt8 × Nat)) (rm sl : Nat) (iv : Value) (wr : World) : Prop :=
 ∃ (j rj : Nat) (sj : List UInt8) (l : List LT) (cs : List Value) (a : Option Addr) (nn cap : Nat), j ≤ m ∧ iv = .int .i64 j ∧ l.length = j ∧ rj ≤ rm ∧ sj.length ≤ sl ∧ LB < wr.heap.size ∧
  Hid (GL [S, R] w wr) ∧ Hid (SAt wr S sj) ∧ Hid (RAt wr R rj) ∧ Hid (FAt wr F S R) ∧ Hid (wr.heap[RS]? = some (.cells #[.int .u8 0, .string (bs []), .int .i64 0, .slice none 0 0] 25 (0, 0))) ∧
  Hid (wr.heap[LB]? = some (.cells #[.int .u8 k, .string (bs []), .int .i64 0, .slice a nn cap] 25 (0, 0))) ∧ Hid (wr.ownsRow (LB + 1) 25 4 (.slice a nn cap) j cs) ∧
  Hid (RowV (fun b => w.heap.size ≤ b ∧ b ≠ RS ∧ b ≠ LB ∧ some b ≠ (Value.slice a nn cap).ownBlock) wr l cs) ∧
  Hid ((match v8_ (w2_ v4_ q6_ f) (m - j) rj sj with | none => none | some (l', s', r') => some (l ++ l', s', r')) = tot)
theorem zhc_ {f d rj : Nat} {sj : List UInt8} {l : List LT} {tot : Option (List LT × List UInt8 × Nat)} (hd : 0 < d) (h : (match v8_ (w2_ v4_ q6_ f) d rj sj with | none => none | some (l', s', r') => some (l ++ l', s', r')) = tot) (hx : w2_ v4_ q6_ f rj sj = none) : tot = none := by
 obtain ⟨e, rfl⟩ : ∃ e, d = e + 1 := ⟨d - 1, by omega⟩
 rw [v8_, hx] at h
 exact h.symm
theorem zhd_ {f d rj r' : Nat} {sj s' : List UInt8} {l : List LT} {x : LT} {tot : Option (List LT × List UInt8 × Nat)} (hd : 0 < d) (h : (match v8_ (w2_ v4_ q6_ f) d rj sj with | none => none | some (l', s', r') => some (l ++ l', s', r')) = tot) (hx : w2_ v4_ q6_ f rj sj = some (x, s', r')) :
  (match v8_ (w2_ v4_ q6_ f) (d - 1) r' s' with | none => none | some (l', s', r') => some ((l ++ [x]) ++ l', s', r')) = tot := by
 obtain ⟨e, rfl⟩ : ∃ e, d = e + 1 := ⟨d - 1, by omega⟩
 rw [v8_, hx] at h
 simp only at h
 rw [← h, Nat.add_sub_cancel]
 cases v8_ (w2_ v4_ q6_ f) e r' s' with
 | none => rfl
 | some z => simp
theorem zfb_ {w : World} {base e size n : Nat} {v : Value} {xs : List Value} (h : w.ownsRow base e size v n xs) : ∀ g, v.ownBlock = some g → g < w.heap.size := by
 intro g hg
 rcases h.2 with ⟨rfl, _⟩ | ⟨g', cap, cur, rfl, _, h', _⟩
 · simp [Value.ownBlock] at hg
 · simp [Value.ownBlock] at hg
   subst hg
   exact z0_ h'
theorem zhe_ {S R F RS LB : Nat} {k : Int} {w : World} {f m rm sl : Nat} {tot : Option (List LT × List UInt8 × Nat)} {j rj r' : Nat} {sj s' : List UInt8} {l : List LT} {cs : List Value} {a ad4 : Option Addr} {nn cap n4 cp4 : Nat} {wr w1 w4 : World} {X Y : Obj} {x : LT} {u0 u1 u2 u3 : Value}
  (hlt : j < m) (hll : l.length = j) (hrj : rj ≤ rm) (hsj : sj.length ≤ sl) (hlen : s'.length ≤ sj.length ∧ r' < rj) (hLs : LB < wr.heap.size) (hRSL : RS < LB) (hwR : w.heap.size ≤ RS) (hSw : S < w.heap.size) (hRw : R < w.heap.size) (hFw : F < w.heap.size)
  (hgr : GL [S, R] w wr) (hgl1 : GL [S, R] wr w1) (hS1 : SAt w1 S s') (hR1 : RAt w1 R r') (hF1 : FAt w1 F S R)
  (hQ1 : w1.heap[RS]? = some (.cells #[.int .u8 0, .string (bs []), .int .i64 0, .slice none 0 0] 25 (0, 0))) (hL4 : w4.heap[LB]? = some (.cells #[.int .u8 k, .string (bs []), .int .i64 0, .slice a nn cap] 25 (0, 0)))
  (hown : wr.ownsRow (LB + 1) 25 4 (.slice a nn cap) j cs) (hrv : RowV (fun b => w.heap.size ≤ b ∧ b ≠ RS ∧ b ≠ LB ∧ some b ≠ (Value.slice a nn cap).ownBlock) wr l cs)
  (hlv : y2_ (fun b => wr.heap.size ≤ b) w1 x (.agg #[u0, u1, u2, u3])) (hown4 : w4.ownsRow (LB + 1) 25 4 (.slice ad4 n4 cp4) (j + 1) (cs ++ [u0, u1, u2, u3]))
  (hgr4 : ((w1.alloc X).alloc Y).grownBy w4 (Value.slice a nn cap).ownBlock)
  (hat4 : (Value.slice ad4 n4 cp4).ownBlock = (Value.slice a nn cap).ownBlock ∨ (Value.slice ad4 n4 cp4).ownBlock = some ((w1.alloc X).alloc Y).heap.size)
  (hct : (match v8_ (w2_ v4_ q6_ f) (m - j - 1) r' s' with | none => none | some (l', s', r') => some ((l ++ [x]) ++ l', s', r')) = tot) :
  KSt S R F RS LB k w f m tot rm sl (.int .i64 ((j : Int) + 1)) (w4.setCell ⟨LB, 3, none⟩ (.slice ad4 n4 cp4)) := by
 have hob := zal_ hown
 have hol := zfb_ hown
 have hob4 := zal_ hown4
 have h1 := hgr.size
 have h2 := hgl1.size
 have h3 := hgr4.size
 simp only [World.size_alloc] at h3
 have hkeep : ∀ b, b < w1.heap.size → some b ≠ (Value.slice a nn cap).ownBlock → b ≠ LB → (w4.setCell ⟨LB, 3, none⟩ (.slice ad4 n4 cp4)).heap[b]? = w1.heap[b]? := fun b hb ho hl => by
  rw [Below.heap_setCell _ _ _ _ (by simpa using hl), hgr4.block b so_ ho, Below.heap_alloc _ _ _ so_, Below.heap_alloc _ _ _ hb]
 have hnew : ∀ b, b < w1.heap.size → some b ≠ (Value.slice a nn cap).ownBlock → some b ≠ (Value.slice ad4 n4 cp4).ownBlock := fun b hb ho => by
  rcases hat4 with h | h
  · rw [h]; exact ho
  · rw [h]; simp; omega
 have hlow : ∀ b, b < LB → some b ≠ (Value.slice a nn cap).ownBlock := fun b hb h => by have := hob b h.symm; omega
 refine ⟨j + 1, r', s', l ++ [x], cs ++ [u0, u1, u2, u3], ad4, n4, cp4, by omega, by simp, by simp [hll], by omega, by omega, by simp [World.setCell]; omega, Lib.hid ?_, Lib.hid ?_, Lib.hid ?_, Lib.hid ?_, Lib.hid ?_, Lib.hid ?_, Lib.hid ?_, Lib.hid ?_, Lib.hid ?_⟩
 · exact x6_ (zaL_ hgr4 (z6_ (z6_ (x1_ hgl1 hgr si_) X) Y) (fun r hr => .inr (by have := hob r hr; omega))) (.inr so_) _
 · show (w4.setCell _ _).heap[S]? = _
   rw [hkeep S om_ (hlow S om_) om_]; exact hS1
 · show (w4.setCell _ _).heap[R]? = _
   rw [hkeep R om_ (hlow R om_) om_]; exact hR1
 · show (w4.setCell _ _).heap[F]? = _
   rw [hkeep F om_ (hlow F om_) om_]; exact hF1
 · rw [hkeep RS om_ (hlow RS om_) om_]; exact hQ1
 · exact x7_ hL4 3 (.slice ad4 n4 cp4)
 · exact w3_ hown4 (p := ⟨LB, 3, none⟩) (fun h => by have := hob4 LB h.symm; omega) _
 · refine zdZ_ (za5_ ⟨by simp [World.setCell]; omega, fun b hb hp => hkeep b hb (fun h => by have := hol b h.symm; omega) om_⟩ (fun b hb hp => ⟨by omega, by omega, by omega, hnew b hb (fun h => by have := hol b h.symm; omega)⟩) x _ hlv) l cs ?_
   exact zc0_ ⟨by simp [World.setCell]; omega, fun b hb hp => (hkeep b om_ hp.2.2.2 hp.2.2.1).trans (hgl1.block b hb so_)⟩ (fun b hb hp => ⟨hp.1, hp.2.1, hp.2.2.1, hnew b om_ hp.2.2.2⟩) l cs hrv
 · exact hct
theorem zhf_ {RS LB : Nat} {k : Int} {w wr W : World} {j : Nat} {l : List LT} {cs : List Value} {a : Option Addr} {nn cap : Nat} (hk : 0 ≤ k ∧ k ≤ 255) (hj : j ≤ 9) (hll : l.length = j) (hRSL : RS < LB) (hwR : w.heap.size ≤ RS) (hsz : w.heap.size ≤ wr.heap.size)
  (hown : wr.ownsRow (LB + 1) 25 4 (.slice a nn cap) j cs) (hrv : RowV (fun b => w.heap.size ≤ b ∧ b ≠ RS ∧ b ≠ LB ∧ some b ≠ (Value.slice a nn cap).ownBlock) wr l cs) (hW : wr.heap.size ≤ W.heap.size) (hW2 : ∀ b, b ≠ RS → W.heap[b]? = wr.heap[b]?) :
  y2_ (fun b => w.heap.size ≤ b) W (.mk k [] 0 l) (.agg #[.int .u8 k, .string (bs []), .int .i64 0, .slice a nn cap]) := by
 obtain rfl := zbm_ hown
 unfold y2_
 refine ⟨hk, by omega, by simp, by omega, _, rfl, ?_⟩
 by_cases hz : nn = 0
 · subst hz
   exact .inl ⟨a, cap, rfl, List.eq_nil_of_length_eq_zero hll⟩
 · obtain ⟨g, c2, e, h1, h2, h3⟩ := zc1_ hown om_ hll hrv
   injection e with e1 e2 e3
   subst e1 e3
   refine .inr ⟨g, 0, cap, by rw [hll], by omega, by omega, ?_⟩
   exact zbE_ (p := fun b => b ≠ RS ∧ w.heap.size ≤ b) ⟨hW, fun b hb hp => hW2 b hp.1⟩ (fun b _ h => h.2) l g 0 h2 ⟨by omega, by omega⟩ (zbs_ (fun b _ h => ⟨h.2.1, h.1⟩) l g 0 h3)
theorem zk2_ (r : List UInt8) (rm f : Nat) (ih : RdIH f) (n : Nat) (s2 : List UInt8) (tot : Option (List LT × List UInt8 × Nat)) (hf : rm < f) (h64 : rm ≤ 64) (S R F : Nat) (w : World) (nSR : S ≠ R) (nSF : S ≠ F) (nRF : R ≠ F) (gnS : gN ≤ S) (gnR : gN ≤ R) (hS : SAt w S (38 :: r)) (hR : RAt w R ((rm : Int) + 1)) (hF : FAt w F S R) (hrl : r.length ≤ 100000000000) (hrm : (rm : Int) ≤ 1000) (hb0 : ((rm : Int) + 1 == 0) = false) (hc : v7_ 58 r = some (n, s2)) (htot : v8_ (w2_ v4_ q6_ f) (min n 9) rm s2 = tot) (hG : GOk w) :
  Calls Tryz.prog 49 #[.pointer (some ⟨S, 0, none⟩), .pointer (some ⟨R, 0, none⟩), .pointer (some ⟨F, 0, none⟩)] w (zaw_ S R w (zcB_ 5 tot)) := by
 have HG0 := Lib.hid hG
 have nRS := nSR.symm
 have nFS := nSF.symm
 have nFR := nRF.symm
 have HV := Lib.hid (zc2_ hc)
 have hn := (zaF_ hc).2
 have hs2l : s2.length ≤ 100000000000 := by
  have := congrArg List.length (zaF_ hc).1
  simp at this
  omega
 have IH := Lib.hid ih
 have HT := Lib.hid htot
 obtain ⟨m, hm⟩ : ∃ m, min n 9 = m := ⟨_, rfl⟩
 rw [hm] at HT
 have hm9 : m ≤ 9 := by omega
 have hmin : min (n : Int) 9 = (m : Int) := by omega
 have hsL := z0_ hS
 have hrL := z0_ hR
 have hfL := z0_ hF
 clear ih htot hc hm
 obtain ⟨i0, hi0, hi1, hi2, hi3⟩ := info_parts Tryz.infoLock
 have HS0 := Lib.hid hS
 have HR0 := Lib.hid hR
 have HF0 := Lib.hid hF
 clear hS hR hF hG
 go_enter Tryz.func49, Tryz.ntmps49
 have hg0 : GL [S, R] w w := z1_ _ _
 have hs0 : w.heap.size ≤ w.heap.size := Nat.le_refl _
 have fa1 := z2_ HS0.out
 have fb1 := z5_ HS0.out
 have fl1 := z0_ HS0.out
 have fa2 := z2_ HR0.out
 have fb2 := z5_ HR0.out
 have fl2 := z0_ HR0.out
 go_wp2_with fail
 clear fa1 fb1 fl1 fa2 fb2 fl2
 have HS1 := Lib.hid (y8_ HS0.out (p := ⟨R, 0, none⟩) sx_ (.int .i64 rm))
 have HF1 := Lib.hid (y8_ HF0.out (p := ⟨R, 0, none⟩) sx_ (.int .i64 rm))
 have HG1 := Lib.hid (x4_ (rs := [R]) HG0.out (x6_ (z1_ _ _) (p := ⟨R, 0, none⟩) (.inl si_) (.int .i64 rm)) sx_)
 have hg1 : GL [S, R] w (w.setCell ⟨R, 0, none⟩ (.int .i64 rm)) := x6_ hg0 (by first | (left; simp; done) | (right; simp; omega)) _
 have HR1 : Hid (RAt (w.setCell ⟨R, 0, none⟩ (.int .i64 rm)) R rm) := (x7_ HR0.out 0 (.int .i64 rm))
 have HZ1 : Hid ((w.setCell ⟨R, 0, none⟩ (.int .i64 rm)).heap.size = w.heap.size) := by show _ = _; simp [World.setCell]
 generalize (w.setCell ⟨R, 0, none⟩ (.int .i64 rm)) = w1 at *
 have hs1 := hg1.size
 have hle : k0_ w ≤ w.heap.size ∧ w.heap.size ≤ k0_ w := ⟨Nat.le_refl _, Nat.le_refl _⟩
 have HS2 := Lib.hid (z8_ HS1.out zl_)
 have ltSRS : S < w.heap.size := by have := z0_ HS1.out; have := HZ1.out; omega
 have neSRS : S ≠ w.heap.size := by omega
 have neRSS : w.heap.size ≠ S := by omega
 have HR2 := Lib.hid (z8_ HR1.out zl_)
 have ltRRS : R < w.heap.size := by have := z0_ HR1.out; have := HZ1.out; omega
 have neRRS : R ≠ w.heap.size := by omega
 have neRSR : w.heap.size ≠ R := by omega
 have HF2 := Lib.hid (z8_ HF1.out zl_)
 have ltFRS : F < w.heap.size := by have := z0_ HF1.out; have := HZ1.out; omega
 have neFRS : F ≠ w.heap.size := by omega
 have neRSF : w.heap.size ≠ F := by omega
 have hZ_ := z3_ w1 zl_
 rw [HZ1.out] at hZ_
 have HRS2 := Lib.hid (hZ_)
 clear hZ_
 have HG2 := Lib.hid (y5_ HG1.out zl_)
 have hg2 := z6_ hg1 zl_
 have geRS : w.heap.size ≤ w.heap.size := by have := hg1.size; omega
 have gnRS : gN ≤ w.heap.size := by have := HG1.out.size; omega
 generalize (w1.alloc zl_) = w2 at *
 generalize w.heap.size = RS at *
 have hs2 := hg2.size
 have hRSw : w.heap.size ≤ RS := hle.1
 have hRSw2 : RS ≤ w.heap.size := hle.2
 refine (zas_ [32, 115, 112, 97, 111, 38, 124] _ 38 rfl _).mono ?_
 rintro e wq ⟨rfl, hwq⟩
 have hwq2 := hwq.symm
 subst hwq2
 rw [show Lib.indexByte [32, 115, 112, 97, 111, 38, 124] 38 = 5 by decide]
 have fa3 := z2_ HS2.out
 have fb3 := z5_ HS2.out
 have fl3 := z0_ HS2.out
 go_wp2_with fail
 clear fa3 fb3 fl3
 have HR3 := Lib.hid (y8_ HR2.out (p := ⟨S, 0, none⟩) sx_ (.string (bs r)))
 have HF3 := Lib.hid (y8_ HF2.out (p := ⟨S, 0, none⟩) sx_ (.string (bs r)))
 have HRS3 := Lib.hid (y8_ HRS2.out (p := ⟨S, 0, none⟩) sx_ (.string (bs r)))
 have HG3 := Lib.hid (x4_ (rs := [S]) HG2.out (x6_ (z1_ _ _) (p := ⟨S, 0, none⟩) (.inl si_) (.string (bs r))) sx_)
 have hg3 : GL [S, R] w (w2.setCell ⟨S, 0, none⟩ (.string (bs r))) := x6_ hg2 (by first | (left; simp; done) | (right; simp; omega)) _
 have HS3 : Hid (SAt (w2.setCell ⟨S, 0, none⟩ (.string (bs r))) S r) := (x7_ HS2.out 0 (.string (bs r)))
 have HZ3 : Hid ((w2.setCell ⟨S, 0, none⟩ (.string (bs r))).heap.size = w2.heap.size) := by show _ = _; simp [World.setCell]
 generalize (w2.setCell ⟨S, 0, none⟩ (.string (bs r))) = w3 at *
 have hs3 := hg3.size
 have HS4 := Lib.hid (z8_ HS3.out (.cells #[.int .u8 5, .string (bs []), .int .i64 0, .slice none 0 0] 25))
 have ltSLB : S < w2.heap.size := by have := z0_ HS3.out; have := HZ3.out; omega
 have neSLB : S ≠ w2.heap.size := by omega
 have neLBS : w2.heap.size ≠ S := by omega
 have HR4 := Lib.hid (z8_ HR3.out (.cells #[.int .u8 5, .string (bs []), .int .i64 0, .slice none 0 0] 25))
 have ltRLB : R < w2.heap.size := by have := z0_ HR3.out; have := HZ3.out; omega
 have neRLB : R ≠ w2.heap.size := by omega
 have neLBR : w2.heap.size ≠ R := by omega
 have HF4 := Lib.hid (z8_ HF3.out (.cells #[.int .u8 5, .string (bs []), .int .i64 0, .slice none 0 0] 25))
 have ltFLB : F < w2.heap.size := by have := z0_ HF3.out; have := HZ3.out; omega
 have neFLB : F ≠ w2.heap.size := by omega
 have neLBF : w2.heap.size ≠ F := by omega
 have HRS4 := Lib.hid (z8_ HRS3.out (.cells #[.int .u8 5, .string (bs []), .int .i64 0, .slice none 0 0] 25))
 have ltRSLB : RS < w2.heap.size := by have := z0_ HRS3.out; have := HZ3.out; omega
 have neRSLB : RS ≠ w2.heap.size := by omega
 have neLBRS : w2.heap.size ≠ RS := by omega
 have hZ_ := z3_ w3 (.cells #[.int .u8 5, .string (bs []), .int .i64 0, .slice none 0 0] 25)
 rw [HZ3.out] at hZ_
 have HLB4 := Lib.hid (hZ_)
 clear hZ_
 have HG4 := Lib.hid (y5_ HG3.out (.cells #[.int .u8 5, .string (bs []), .int .i64 0, .slice none 0 0] 25))
 have hg4 := z6_ hg3 (.cells #[.int .u8 5, .string (bs []), .int .i64 0, .slice none 0 0] 25)
 have geLB : w.heap.size ≤ w2.heap.size := by have := hg3.size; omega
 have gnLB : gN ≤ w2.heap.size := by have := HG3.out.size; omega
 generalize (w3.alloc (.cells #[.int .u8 5, .string (bs []), .int .i64 0, .slice none 0 0] 25)) = w4 at *
 generalize w2.heap.size = LB at *
 have hs4 := hg4.size
 go_wp2_with fail
 refine (zcA_ 58 r om_ _ HG4.out).mono ?_
 rintro e w5 ⟨rfl, hb5⟩
 rw [HV.out]
 have HS5 := Lib.hid (z9_ HS4.out hb5 (z0_ HS4.out))
 have HR5 := Lib.hid (z9_ HR4.out hb5 (z0_ HR4.out))
 have HF5 := Lib.hid (z9_ HF4.out hb5 (z0_ HF4.out))
 have HRS5 := Lib.hid (z9_ HRS4.out hb5 (z0_ HRS4.out))
 have HLB5 := Lib.hid (z9_ HLB4.out hb5 (z0_ HLB4.out))
 have HG5 := Lib.hid (y6_ HG4.out hb5)
 have hg5 := z4_ hb5 hg4
 have hs5 := hg5.size
 have fa4 := z2_ HS5.out
 have fb4 := z5_ HS5.out
 have fl4 := z0_ HS5.out
 have fa5 := z2_ HLB5.out
 have fb5 := z5_ HLB5.out
 have fl5 := z0_ HLB5.out
 have fa6 := z2_ HRS5.out
 have fb6 := z5_ HRS5.out
 have fl6 := z0_ HRS5.out
 go_wp2_with fail
 clear fa4 fb4 fl4 fa5 fb5 fl5 fa6 fb6 fl6
 have HR6 := Lib.hid (y8_ HR5.out (p := ⟨S, 0, none⟩) sx_ (.string (bs s2)))
 have HF6 := Lib.hid (y8_ HF5.out (p := ⟨S, 0, none⟩) sx_ (.string (bs s2)))
 have HRS6 := Lib.hid (y8_ HRS5.out (p := ⟨S, 0, none⟩) sx_ (.string (bs s2)))
 have HLB6 := Lib.hid (y8_ HLB5.out (p := ⟨S, 0, none⟩) sx_ (.string (bs s2)))
 have HG6 := Lib.hid (x4_ (rs := [S]) HG5.out (x6_ (z1_ _ _) (p := ⟨S, 0, none⟩) (.inl si_) (.string (bs s2))) sx_)
 have hg6 : GL [S, R] w (w5.setCell ⟨S, 0, none⟩ (.string (bs s2))) := x6_ hg5 (by first | (left; simp; done) | (right; simp; omega)) _
 have HS6 : Hid (SAt (w5.setCell ⟨S, 0, none⟩ (.string (bs s2))) S s2) := (x7_ HS5.out 0 (.string (bs s2)))
 have HZ6 : Hid ((w5.setCell ⟨S, 0, none⟩ (.string (bs s2))).heap.size = w5.heap.size) := by show _ = _; simp [World.setCell]
 generalize (w5.setCell ⟨S, 0, none⟩ (.string (bs s2))) = w6 at *
 have hs6 := hg6.size
 have hLBs : LB < w6.heap.size := z0_ HLB6.out
 go_loopw [8, 9, 60] (fun _ _ iv wr => KSt S R F RS LB 5 w f m tot rm 100000000000 iv wr) (fun _ _ iv _ => m - (intOf iv).toNat)
 case atStart =>
  refine ⟨0, rm, s2, [], [], none, 0, 0, by omega, rfl, rfl, Nat.le_refl _, hs2l, hLBs, Lib.hid hg6, HS6, HR6, HF6, HRS6, HLB6, Lib.hid ⟨rfl, .inl ⟨rfl, rfl⟩⟩, Lib.hid rfl, Lib.hid ?_⟩
  rw [← HT.out, Nat.sub_zero]
  cases v8_ (w2_ v4_ q6_ f) m rm s2 with
  | none => rfl
  | some z => simp
 case round =>
  obtain ⟨j, rj, sj, l, cs, a, nn, cap, hj, rfl, hll, hrj, hsj, hLs, hgr, HSr, HRr, HFr, HRSr, HLBr, hown, hrv, hct⟩ := hrel
  have hsz := hgr.out.size
  have fS := z2_ HSr.out
  have fF := z2_ HFr.out
  have fF2 := z5_ HFr.out
  have fL := z2_ HLBr.out
  have fL2 := z5_ HLBr.out
  have fQ := z2_ HRSr.out
  have fQ2 := z5_ HRSr.out
  have lQ := z0_ HRSr.out
  by_cases hlt : j < m
  · have i1 : (j : Int) < m := by omega
    have hGr := x4_ HG6.out (w := w6) (w' := w6) (z1_ [] _) si_
    have hGr : GOk wr := x4_ HG0.out hgr.out so_
    have hcall := IH.out S R F sj rj wr om_ om_ om_ nSR nSF nRF gnS gnR HSr.out HRr.out HFr.out hGr
    cases ho : w2_ v4_ q6_ f rj sj with
    | none =>
      have HTN : Hid (tot = none) := zhc_ om_ hct.out ho
      rw [ho] at hcall
      have HC := Lib.hid hcall
      clear hcall ho hct
      go_wp2_with fail
      refine (HC.out).mono ?_
      rintro e w1 ⟨hgl1, kk, kn, kt, ka, km, kc, rfl⟩
      have HQ1 := Lib.hid (y7_ HRSr.out hgl1 so_)
      have fq1 := z2_ HQ1.out
      have fq2 := z5_ HQ1.out
      have fq3 := z0_ HQ1.out
      have hg1 : GL [S, R] w w1 := x1_ hgl1 hgr.out si_
      go_wp2
      refine bodyPost_ret (v := .tuple #[.agg #[.int .u8 0, .string (bs []), .int .i64 0, .slice none 0 0], .bool false]) (by simp [results, Tryz.results49, go_sem, zaP_, fq1, fq2, fq3]) rfl ?_
      show zaw_ S R w (zcB_ 5 tot) _ _
      rw [HTN.out]
      exact ⟨gl_, _, _, _, _, _, _, rfl⟩
    | some z =>
      obtain ⟨x, s', r'⟩ := z
      have hlen := ze9_ _ _ _ _ _ _ ho
      have HCT := Lib.hid (zhd_ om_ hct.out ho)
      rw [ho] at hcall
      have HC := Lib.hid hcall
      clear hcall ho hct
      go_wp2_with fail
      refine (HC.out).mono ?_
      rintro e w1 ⟨hgl1, v, rfl, hlv, hS1, hR1⟩
      obtain ⟨xk, xt, xn, xkids⟩ := x
      obtain ⟨xa, xc, rfl, _⟩ := y3_ hlv
      have HLV := Lib.hid hlv
      have HS1 := Lib.hid hS1
      have HR1 := Lib.hid hR1
      have HL1 := Lib.hid (y7_ HLBr.out hgl1 so_)
      have HQ1 := Lib.hid (y7_ HRSr.out hgl1 so_)
      have HF1 := Lib.hid (y7_ HFr.out hgl1 so_)
      have hown1 := zdr_ hown.out hgl1 (by
       intro g hg he
       have := zal_ hown.out g he
       simp at hg
       omega)
      have fl1 := z2_ HL1.out
      have fl2 := z5_ HL1.out
      have fl3 := z0_ HL1.out
      have hsz1 := hgl1.size
      have hog := zfb_ hown.out
      have hob := zal_ hown.out
      obtain ⟨OB, hOB⟩ : ∃ OB, (Value.slice a nn cap).ownBlock = OB := ⟨_, rfl⟩
      rw [hOB] at hog hob
      have HOB := Lib.hid hOB
      clear hlv hS1 hR1 hOB fS fF fF2 fL fL2 fQ fQ2
      go_wp2_with (at_builtin; go_must (refine wpList_append_own_at _ rfl _ _ 23 rfl (LB + 1) 25 i0 (.agg #[.int .u8 0, .string ByteArray.empty, .int .i64 0, .slice none 0 0]) 4 56 Tryz.underlying23 hi0 hi1 hi2 hi3 rfl de_ _ j cs rfl (zar_ (zar_ hown1 _) _) ⟨w1.heap.size + 1, 0, none⟩ 1 1 [.int .u8 xk, .string (bs xt), .int .i64 xn, .slice xa xkids.length xc] rfl rfl ?c1 ?c2 ?c3 ?c4 ?c5 ?_; (case c1 => (intro i u hi; (match i, hi with | 0, hi => (simp at hi; subst hi; simp [Addr.add]) | 1, hi => (simp at hi; subst hi; simp [Addr.add]) | 2, hi => (simp at hi; subst hi; simp [Addr.add]) | 3, hi => (simp at hi; subst hi; simp [Addr.add]) | i + 4, hi => (simp at hi)))); (case c2 => (intro u hu; simp at hu; rcases hu with rfl | rfl | rfl | rfl <;> rfl)); (case c3 => (unfold maxLen; omega)); (case c4 => omega); (case c5 => (simp; omega)); (intro v' w4 hown4 hgr4 _ hat4); (obtain ⟨ad4, n4, cp4, hv4⟩ := zai_ hown4); (subst hv4); (have hneL : some LB ≠ OB := fun h => by have := hob LB h.symm; omega); (have HL4 := Lib.hid (j1_ (z8_ (z8_ HL1.out _) _) hgr4 (by show some LB ≠ (Value.slice a nn cap).ownBlock; rw [HOB.out]; exact hneL))); (have g4 := z2_ HL4.out); (have g5 := z5_ HL4.out)))
      go_wp2
      go_roundw
      case rel => exact zhe_ hlt hll hrj hsj hlen hLs ltRSLB hRSw om_ om_ om_ hgr.out hgl1 HS1.out HR1.out HF1.out HQ1.out HL4.out hown.out hrv.out HLV.out hown4 hgr4 hat4 HCT.out
      case measure => simp [intOf]; omega
  · obtain rfl : j = m := by omega
    have HTY : Hid (tot = some (l, sj, rj)) := by
     show tot = _
     have := hct.out
     rw [Nat.sub_self] at this
     rw [← this]
     simp [v8_]
    clear hct
    go_wp2
    refine bodyPost_ret (v := .tuple #[.agg #[.int .u8 5, .string (bs []), .int .i64 0, .slice a nn cap], .bool true]) (by simp [results, Tryz.results49, go_sem, fQ, fQ2, lQ, fL, fL2]) rfl ?_
    show zaw_ S R w (zcB_ 5 tot) _ _
    rw [HTY.out]
    refine ⟨by have := hgr.out; exact gl_, _, rfl, zhf_ (RS := RS) om_ om_ hll ltRSLB hRSw hsz hown.out hrv.out (by simp [World.setCell]) (fun b hb => ?_), ?_, ?_⟩
    · repeat (rw [Below.heap_setCell _ _ _ _ (by simpa using hb)])
    · have hq := HSr.out
      unfold SAt at hq ⊢
      (repeat' (first | with_reducible exact hq | with_reducible refine z8_ ?_ _ | with_reducible refine zaf_ ?_ _ | with_reducible refine zac_ ?_ | with_reducible refine y8_ ?_ ?_ _ | (simp; done) | (simp; omega) | omega))
    · have hq := HRr.out
      unfold RAt at hq ⊢
      (repeat' (first | with_reducible exact hq | with_reducible refine z8_ ?_ _ | with_reducible refine zaf_ ?_ _ | with_reducible refine zac_ ?_ | with_reducible refine y8_ ?_ ?_ _ | (simp; done) | (simp; omega) | omega))
theorem zk3_ (r : List UInt8) (rm f : Nat) (ih : RdIH f) (n : Nat) (s2 : List UInt8) (tot : Option (List LT × List UInt8 × Nat)) (hf : rm < f) (h64 : rm ≤ 64) (S R F : Nat) (w : World) (nSR : S ≠ R) (nSF : S ≠ F) (nRF : R ≠ F) (gnS : gN ≤ S) (gnR : gN ≤ R) (hS : SAt w S (124 :: r)) (hR : RAt w R ((rm : Int) + 1)) (hF : FAt w F S R) (hrl : r.length ≤ 100000000000) (hrm : (rm : Int) ≤ 1000) (hb0 : ((rm : Int) + 1 == 0) = false) (hc : v7_ 58 r = some (n, s2)) (htot : v8_ (w2_ v4_ q6_ f) (min n 9) rm s2 = tot) (hG : GOk w) :
  Calls Tryz.prog 49 #[.pointer (some ⟨S, 0, none⟩), .pointer (some ⟨R, 0, none⟩), .pointer (some ⟨F, 0, none⟩)] w (zaw_ S R w (zcB_ 6 tot)) := by
 have HG0 := Lib.hid hG
 have nRS := nSR.symm
 have nFS := nSF.symm
 have nFR := nRF.symm
 have HV := Lib.hid (zc2_ hc)
 have hn := (zaF_ hc).2
 have hs2l : s2.length ≤ 100000000000 := by
  have := congrArg List.length (zaF_ hc).1
  simp at this
  omega
 have IH := Lib.hid ih
 have HT := Lib.hid htot
 obtain ⟨m, hm⟩ : ∃ m, min n 9 = m := ⟨_, rfl⟩
 rw [hm] at HT
 have hm9 : m ≤ 9 := by omega
 have hmin : min (n : Int) 9 = (m : Int) := by omega
 have hsL := z0_ hS
 have hrL := z0_ hR
 have hfL := z0_ hF
 clear ih htot hc hm
 obtain ⟨i0, hi0, hi1, hi2, hi3⟩ := info_parts Tryz.infoLock
 have HS0 := Lib.hid hS
 have HR0 := Lib.hid hR
 have HF0 := Lib.hid hF
 clear hS hR hF hG
 go_enter Tryz.func49, Tryz.ntmps49
 have hg0 : GL [S, R] w w := z1_ _ _
 have hs0 : w.heap.size ≤ w.heap.size := Nat.le_refl _
 have fa1 := z2_ HS0.out
 have fb1 := z5_ HS0.out
 have fl1 := z0_ HS0.out
 have fa2 := z2_ HR0.out
 have fb2 := z5_ HR0.out
 have fl2 := z0_ HR0.out
 go_wp2_with fail
 clear fa1 fb1 fl1 fa2 fb2 fl2
 have HS1 := Lib.hid (y8_ HS0.out (p := ⟨R, 0, none⟩) sx_ (.int .i64 rm))
 have HF1 := Lib.hid (y8_ HF0.out (p := ⟨R, 0, none⟩) sx_ (.int .i64 rm))
 have HG1 := Lib.hid (x4_ (rs := [R]) HG0.out (x6_ (z1_ _ _) (p := ⟨R, 0, none⟩) (.inl si_) (.int .i64 rm)) sx_)
 have hg1 : GL [S, R] w (w.setCell ⟨R, 0, none⟩ (.int .i64 rm)) := x6_ hg0 (by first | (left; simp; done) | (right; simp; omega)) _
 have HR1 : Hid (RAt (w.setCell ⟨R, 0, none⟩ (.int .i64 rm)) R rm) := (x7_ HR0.out 0 (.int .i64 rm))
 have HZ1 : Hid ((w.setCell ⟨R, 0, none⟩ (.int .i64 rm)).heap.size = w.heap.size) := by show _ = _; simp [World.setCell]
 generalize (w.setCell ⟨R, 0, none⟩ (.int .i64 rm)) = w1 at *
 have hs1 := hg1.size
 have hle : k0_ w ≤ w.heap.size ∧ w.heap.size ≤ k0_ w := ⟨Nat.le_refl _, Nat.le_refl _⟩
 have HS2 := Lib.hid (z8_ HS1.out zl_)
 have ltSRS : S < w.heap.size := by have := z0_ HS1.out; have := HZ1.out; omega
 have neSRS : S ≠ w.heap.size := by omega
 have neRSS : w.heap.size ≠ S := by omega
 have HR2 := Lib.hid (z8_ HR1.out zl_)
 have ltRRS : R < w.heap.size := by have := z0_ HR1.out; have := HZ1.out; omega
 have neRRS : R ≠ w.heap.size := by omega
 have neRSR : w.heap.size ≠ R := by omega
 have HF2 := Lib.hid (z8_ HF1.out zl_)
 have ltFRS : F < w.heap.size := by have := z0_ HF1.out; have := HZ1.out; omega
 have neFRS : F ≠ w.heap.size := by omega
 have neRSF : w.heap.size ≠ F := by omega
 have hZ_ := z3_ w1 zl_
 rw [HZ1.out] at hZ_
 have HRS2 := Lib.hid (hZ_)
 clear hZ_
 have HG2 := Lib.hid (y5_ HG1.out zl_)
 have hg2 := z6_ hg1 zl_
 have geRS : w.heap.size ≤ w.heap.size := by have := hg1.size; omega
 have gnRS : gN ≤ w.heap.size := by have := HG1.out.size; omega
 generalize (w1.alloc zl_) = w2 at *
 generalize w.heap.size = RS at *
 have hs2 := hg2.size
 have hRSw : w.heap.size ≤ RS := hle.1
 have hRSw2 : RS ≤ w.heap.size := hle.2
 refine (zas_ [32, 115, 112, 97, 111, 38, 124] _ 124 rfl _).mono ?_
 rintro e wq ⟨rfl, hwq⟩
 have hwq2 := hwq.symm
 subst hwq2
 rw [show Lib.indexByte [32, 115, 112, 97, 111, 38, 124] 124 = 6 by decide]
 have fa3 := z2_ HS2.out
 have fb3 := z5_ HS2.out
 have fl3 := z0_ HS2.out
 go_wp2_with fail
 clear fa3 fb3 fl3
 have HR3 := Lib.hid (y8_ HR2.out (p := ⟨S, 0, none⟩) sx_ (.string (bs r)))
 have HF3 := Lib.hid (y8_ HF2.out (p := ⟨S, 0, none⟩) sx_ (.string (bs r)))
 have HRS3 := Lib.hid (y8_ HRS2.out (p := ⟨S, 0, none⟩) sx_ (.string (bs r)))
 have HG3 := Lib.hid (x4_ (rs := [S]) HG2.out (x6_ (z1_ _ _) (p := ⟨S, 0, none⟩) (.inl si_) (.string (bs r))) sx_)
 have hg3 : GL [S, R] w (w2.setCell ⟨S, 0, none⟩ (.string (bs r))) := x6_ hg2 (by first | (left; simp; done) | (right; simp; omega)) _
 have HS3 : Hid (SAt (w2.setCell ⟨S, 0, none⟩ (.string (bs r))) S r) := (x7_ HS2.out 0 (.string (bs r)))
 have HZ3 : Hid ((w2.setCell ⟨S, 0, none⟩ (.string (bs r))).heap.size = w2.heap.size) := by show _ = _; simp [World.setCell]
 generalize (w2.setCell ⟨S, 0, none⟩ (.string (bs r))) = w3 at *
 have hs3 := hg3.size
 have HS4 := Lib.hid (z8_ HS3.out (.cells #[.int .u8 6, .string (bs []), .int .i64 0, .slice none 0 0] 25))
 have ltSLB : S < w2.heap.size := by have := z0_ HS3.out; have := HZ3.out; omega
 have neSLB : S ≠ w2.heap.size := by omega
 have neLBS : w2.heap.size ≠ S := by omega
 have HR4 := Lib.hid (z8_ HR3.out (.cells #[.int .u8 6, .string (bs []), .int .i64 0, .slice none 0 0] 25))
 have ltRLB : R < w2.heap.size := by have := z0_ HR3.out; have := HZ3.out; omega
 have neRLB : R ≠ w2.heap.size := by omega
 have neLBR : w2.heap.size ≠ R := by omega
 have HF4 := Lib.hid (z8_ HF3.out (.cells #[.int .u8 6, .string (bs []), .int .i64 0, .slice none 0 0] 25))
 have ltFLB : F < w2.heap.size := by have := z0_ HF3.out; have := HZ3.out; omega
 have neFLB : F ≠ w2.heap.size := by omega
 have neLBF : w2.heap.size ≠ F := by omega
 have HRS4 := Lib.hid (z8_ HRS3.out (.cells #[.int .u8 6, .string (bs []), .int .i64 0, .slice none 0 0] 25))
 have ltRSLB : RS < w2.heap.size := by have := z0_ HRS3.out; have := HZ3.out; omega
 have neRSLB : RS ≠ w2.heap.size := by omega
 have neLBRS : w2.heap.size ≠ RS := by omega
 have hZ_ := z3_ w3 (.cells #[.int .u8 6, .string (bs []), .int .i64 0, .slice none 0 0] 25)
 rw [HZ3.out] at hZ_
 have HLB4 := Lib.hid (hZ_)
 clear hZ_
 have HG4 := Lib.hid (y5_ HG3.out (.cells #[.int .u8 6, .string (bs []), .int .i64 0, .slice none 0 0] 25))
 have hg4 := z6_ hg3 (.cells #[.int .u8 6, .string (bs []), .int .i64 0, .slice none 0 0] 25)
 have geLB : w.heap.size ≤ w2.heap.size := by have := hg3.size; omega
 have gnLB : gN ≤ w2.heap.size := by have := HG3.out.size; omega
 generalize (w3.alloc (.cells #[.int .u8 6, .string (bs []), .int .i64 0, .slice none 0 0] 25)) = w4 at *
 generalize w2.heap.size = LB at *
 have hs4 := hg4.size
 go_wp2_with fail
 refine (zcA_ 58 r om_ _ HG4.out).mono ?_
 rintro e w5 ⟨rfl, hb5⟩
 rw [HV.out]
 have HS5 := Lib.hid (z9_ HS4.out hb5 (z0_ HS4.out))
 have HR5 := Lib.hid (z9_ HR4.out hb5 (z0_ HR4.out))
 have HF5 := Lib.hid (z9_ HF4.out hb5 (z0_ HF4.out))
 have HRS5 := Lib.hid (z9_ HRS4.out hb5 (z0_ HRS4.out))
 have HLB5 := Lib.hid (z9_ HLB4.out hb5 (z0_ HLB4.out))
 have HG5 := Lib.hid (y6_ HG4.out hb5)
 have hg5 := z4_ hb5 hg4
 have hs5 := hg5.size
 have fa4 := z2_ HS5.out
 have fb4 := z5_ HS5.out
 have fl4 := z0_ HS5.out
 have fa5 := z2_ HLB5.out
 have fb5 := z5_ HLB5.out
 have fl5 := z0_ HLB5.out
 have fa6 := z2_ HRS5.out
 have fb6 := z5_ HRS5.out
 have fl6 := z0_ HRS5.out
 go_wp2_with fail
 clear fa4 fb4 fl4 fa5 fb5 fl5 fa6 fb6 fl6
 have HR6 := Lib.hid (y8_ HR5.out (p := ⟨S, 0, none⟩) sx_ (.string (bs s2)))
 have HF6 := Lib.hid (y8_ HF5.out (p := ⟨S, 0, none⟩) sx_ (.string (bs s2)))
 have HRS6 := Lib.hid (y8_ HRS5.out (p := ⟨S, 0, none⟩) sx_ (.string (bs s2)))
 have HLB6 := Lib.hid (y8_ HLB5.out (p := ⟨S, 0, none⟩) sx_ (.string (bs s2)))
 have HG6 := Lib.hid (x4_ (rs := [S]) HG5.out (x6_ (z1_ _ _) (p := ⟨S, 0, none⟩) (.inl si_) (.string (bs s2))) sx_)
 have hg6 : GL [S, R] w (w5.setCell ⟨S, 0, none⟩ (.string (bs s2))) := x6_ hg5 (by first | (left; simp; done) | (right; simp; omega)) _
 have HS6 : Hid (SAt (w5.setCell ⟨S, 0, none⟩ (.string (bs s2))) S s2) := (x7_ HS5.out 0 (.string (bs s2)))
 have HZ6 : Hid ((w5.setCell ⟨S, 0, none⟩ (.string (bs s2))).heap.size = w5.heap.size) := by show _ = _; simp [World.setCell]
 generalize (w5.setCell ⟨S, 0, none⟩ (.string (bs s2))) = w6 at *
 have hs6 := hg6.size
 have hLBs : LB < w6.heap.size := z0_ HLB6.out
 go_loopw [8, 9, 60] (fun _ _ iv wr => KSt S R F RS LB 6 w f m tot rm 100000000000 iv wr) (fun _ _ iv _ => m - (intOf iv).toNat)
 case atStart =>
  refine ⟨0, rm, s2, [], [], none, 0, 0, by omega, rfl, rfl, Nat.le_refl _, hs2l, hLBs, Lib.hid hg6, HS6, HR6, HF6, HRS6, HLB6, Lib.hid ⟨rfl, .inl ⟨rfl, rfl⟩⟩, Lib.hid rfl, Lib.hid ?_⟩
  rw [← HT.out, Nat.sub_zero]
  cases v8_ (w2_ v4_ q6_ f) m rm s2 with
  | none => rfl
  | some z => simp
 case round =>
  obtain ⟨j, rj, sj, l, cs, a, nn, cap, hj, rfl, hll, hrj, hsj, hLs, hgr, HSr, HRr, HFr, HRSr, HLBr, hown, hrv, hct⟩ := hrel
  have hsz := hgr.out.size
  have fS := z2_ HSr.out
  have fF := z2_ HFr.out
  have fF2 := z5_ HFr.out
  have fL := z2_ HLBr.out
  have fL2 := z5_ HLBr.out
  have fQ := z2_ HRSr.out
  have fQ2 := z5_ HRSr.out
  have lQ := z0_ HRSr.out
  by_cases hlt : j < m
  · have i1 : (j : Int) < m := by omega
    have hGr := x4_ HG6.out (w := w6) (w' := w6) (z1_ [] _) si_
    have hGr : GOk wr := x4_ HG0.out hgr.out so_
    have hcall := IH.out S R F sj rj wr om_ om_ om_ nSR nSF nRF gnS gnR HSr.out HRr.out HFr.out hGr
    cases ho : w2_ v4_ q6_ f rj sj with
    | none =>
      have HTN : Hid (tot = none) := zhc_ om_ hct.out ho
      rw [ho] at hcall
      have HC := Lib.hid hcall
      clear hcall ho hct
      go_wp2_with fail
      refine (HC.out).mono ?_
      rintro e w1 ⟨hgl1, kk, kn, kt, ka, km, kc, rfl⟩
      have HQ1 := Lib.hid (y7_ HRSr.out hgl1 so_)
      have fq1 := z2_ HQ1.out
      have fq2 := z5_ HQ1.out
      have fq3 := z0_ HQ1.out
      have hg1 : GL [S, R] w w1 := x1_ hgl1 hgr.out si_
      go_wp2
      refine bodyPost_ret (v := .tuple #[.agg #[.int .u8 0, .string (bs []), .int .i64 0, .slice none 0 0], .bool false]) (by simp [results, Tryz.results49, go_sem, zaP_, fq1, fq2, fq3]) rfl ?_
      show zaw_ S R w (zcB_ 6 tot) _ _
      rw [HTN.out]
      exact ⟨gl_, _, _, _, _, _, _, rfl⟩
    | some z =>
      obtain ⟨x, s', r'⟩ := z
      have hlen := ze9_ _ _ _ _ _ _ ho
      have HCT := Lib.hid (zhd_ om_ hct.out ho)
      rw [ho] at hcall
      have HC := Lib.hid hcall
      clear hcall ho hct
      go_wp2_with fail
      refine (HC.out).mono ?_
      rintro e w1 ⟨hgl1, v, rfl, hlv, hS1, hR1⟩
      obtain ⟨xk, xt, xn, xkids⟩ := x
      obtain ⟨xa, xc, rfl, _⟩ := y3_ hlv
      have HLV := Lib.hid hlv
      have HS1 := Lib.hid hS1
      have HR1 := Lib.hid hR1
      have HL1 := Lib.hid (y7_ HLBr.out hgl1 so_)
      have HQ1 := Lib.hid (y7_ HRSr.out hgl1 so_)
      have HF1 := Lib.hid (y7_ HFr.out hgl1 so_)
      have hown1 := zdr_ hown.out hgl1 (by
       intro g hg he
       have := zal_ hown.out g he
       simp at hg
       omega)
      have fl1 := z2_ HL1.out
      have fl2 := z5_ HL1.out
      have fl3 := z0_ HL1.out
      have hsz1 := hgl1.size
      have hog := zfb_ hown.out
      have hob := zal_ hown.out
      obtain ⟨OB, hOB⟩ : ∃ OB, (Value.slice a nn cap).ownBlock = OB := ⟨_, rfl⟩
      rw [hOB] at hog hob
      have HOB := Lib.hid hOB
      clear hlv hS1 hR1 hOB fS fF fF2 fL fL2 fQ fQ2
      go_wp2_with (at_builtin; go_must (refine wpList_append_own_at _ rfl _ _ 23 rfl (LB + 1) 25 i0 (.agg #[.int .u8 0, .string ByteArray.empty, .int .i64 0, .slice none 0 0]) 4 56 Tryz.underlying23 hi0 hi1 hi2 hi3 rfl de_ _ j cs rfl (zar_ (zar_ hown1 _) _) ⟨w1.heap.size + 1, 0, none⟩ 1 1 [.int .u8 xk, .string (bs xt), .int .i64 xn, .slice xa xkids.length xc] rfl rfl ?c1 ?c2 ?c3 ?c4 ?c5 ?_; (case c1 => (intro i u hi; (match i, hi with | 0, hi => (simp at hi; subst hi; simp [Addr.add]) | 1, hi => (simp at hi; subst hi; simp [Addr.add]) | 2, hi => (simp at hi; subst hi; simp [Addr.add]) | 3, hi => (simp at hi; subst hi; simp [Addr.add]) | i + 4, hi => (simp at hi)))); (case c2 => (intro u hu; simp at hu; rcases hu with rfl | rfl | rfl | rfl <;> rfl)); (case c3 => (unfold maxLen; omega)); (case c4 => omega); (case c5 => (simp; omega)); (intro v' w4 hown4 hgr4 _ hat4); (obtain ⟨ad4, n4, cp4, hv4⟩ := zai_ hown4); (subst hv4); (have hneL : some LB ≠ OB := fun h => by have := hob LB h.symm; omega); (have HL4 := Lib.hid (j1_ (z8_ (z8_ HL1.out _) _) hgr4 (by show some LB ≠ (Value.slice a nn cap).ownBlock; rw [HOB.out]; exact hneL))); (have g4 := z2_ HL4.out); (have g5 := z5_ HL4.out)))
      go_wp2
      go_roundw
      case rel => exact zhe_ hlt hll hrj hsj hlen hLs ltRSLB hRSw om_ om_ om_ hgr.out hgl1 HS1.out HR1.out HF1.out HQ1.out HL4.out hown.out hrv.out HLV.out hown4 hgr4 hat4 HCT.out
      case measure => simp [intOf]; omega
  · obtain rfl : j = m := by omega
    have HTY : Hid (tot = some (l, sj, rj)) := by
     show tot = _
     have := hct.out
     rw [Nat.sub_self] at this
     rw [← this]
     simp [v8_]
    clear hct
    go_wp2
    refine bodyPost_ret (v := .tuple #[.agg #[.int .u8 6, .string (bs []), .int .i64 0, .slice a nn cap], .bool true]) (by simp [results, Tryz.results49, go_sem, fQ, fQ2, lQ, fL, fL2]) rfl ?_
    show zaw_ S R w (zcB_ 6 tot) _ _
    rw [HTY.out]
    refine ⟨by have := hgr.out; exact gl_, _, rfl, zhf_ (RS := RS) om_ om_ hll ltRSLB hRSw hsz hown.out hrv.out (by simp [World.setCell]) (fun b hb => ?_), ?_, ?_⟩
    · repeat (rw [Below.heap_setCell _ _ _ _ (by simpa using hb)])
    · have hq := HSr.out
      unfold SAt at hq ⊢
      (repeat' (first | with_reducible exact hq | with_reducible refine z8_ ?_ _ | with_reducible refine zaf_ ?_ _ | with_reducible refine zac_ ?_ | with_reducible refine y8_ ?_ ?_ _ | (simp; done) | (simp; omega) | omega))
    · have hq := HRr.out
      unfold RAt at hq ⊢
      (repeat' (first | with_reducible exact hq | with_reducible refine z8_ ?_ _ | with_reducible refine zaf_ ?_ _ | with_reducible refine zac_ ?_ | with_reducible refine y8_ ?_ ?_ _ | (simp; done) | (simp; omega) | omega))
theorem zc5_ : ∀ f, RdIH f
 | 0 => fun S R F s room w h _ _ _ _ _ _ _ _ _ _ _ => by omega
 | f + 1 => fun S R F s room w hf hsl hrm nSR nSF nRF gnS gnR hS hR hF hG => by
   match s, room, hf, hsl, hrm, hS, hR with
   | [], 0, _, _, _, hS, _ => exact zhb_ S R F w nSR nSF nRF gnS gnR hS hG
   | [], _ + 1, _, _, _, hS, _ => exact zhb_ S R F w nSR nSF nRF gnS gnR hS hG
   | c :: r, 0, _, _, _, hS, hR => exact zkP_ c r S R F w nSR nSF nRF gnS gnR hS hR hG
   | c :: r, rm + 1, hf, hsl, hrm, hS, hR =>
     have hR2 : RAt w R ((rm : Int) + 1) := by simpa using hR
     have hsl2 : r.length ≤ 100000000000 := by simp at hsl; omega
     have hb0 : ((rm : Int) + 1 == 0) = false := by simp; omega
     have hrm2 : (rm : Int) ≤ 1000 := by omega
     rw [w2_]
     by_cases h1 : c = 115
     · subst h1
       rw [if_pos de_]
       cases hc : v4_ r with
       | none => exact zkS_ r rm S R F w nSR nSF nRF gnS gnR hS hR2 hF hsl2 hrm2 hb0 hc hG
       | some z =>
         obtain ⟨t, s2⟩ := z
         have := congrArg List.length (zd3_ _ _ _ hc)
         simp at this
         exact zkT_ r rm S R F w nSR nSF nRF gnS gnR hS hR2 hF hsl2 hrm2 hb0 t s2 om_ hc hG
     by_cases h2 : c = 112
     · subst h2
       rw [if_pos de_]
       cases hc : v4_ r with
       | none => exact zkU_ r rm S R F w nSR nSF nRF gnS gnR hS hR2 hF hsl2 hrm2 hb0 hc hG
       | some z =>
         obtain ⟨t, s2⟩ := z
         have := congrArg List.length (zd3_ _ _ _ hc)
         simp at this
         exact zkV_ r rm S R F w nSR nSF nRF gnS gnR hS hR2 hF hsl2 hrm2 hb0 t s2 om_ hc hG
     rw [if_neg (by simp [h1, h2])]
     by_cases h3 : c = 97
     · subst h3
       rw [if_pos de_]
       cases hc : v7_ 59 r with
       | none => exact zkW_ r rm S R F w nSR nSF nRF gnS gnR hS hR2 hF hsl2 hrm2 hb0 hc hG
       | some z => exact zkX_ r rm S R F w nSR nSF nRF gnS gnR hS hR2 hF hsl2 hrm2 hb0 z.1 z.2 hc hG
     by_cases h4 : c = 111
     · subst h4
       rw [if_pos de_]
       cases hc : v7_ 59 r with
       | none => exact zkY_ r rm S R F w nSR nSF nRF gnS gnR hS hR2 hF hsl2 hrm2 hb0 hc hG
       | some z => exact zkZ_ r rm S R F w nSR nSF nRF gnS gnR hS hR2 hF hsl2 hrm2 hb0 z.1 z.2 hc hG
     rw [if_neg (by simp [h3, h4])]
     by_cases h5 : c = 38
     · subst h5
       rw [if_pos de_]
       cases hc : v7_ 58 r with
       | none => exact zk0_ r rm S R F w nSR nSF nRF gnS gnR hS hR2 hF hsl2 hrm2 hb0 hc hG
       | some z =>
         obtain ⟨n, s2⟩ := z
         have h := zk2_ r rm f (zc5_ f) n s2 _ om_ om_ S R F w nSR nSF nRF gnS gnR hS hR2 hF hsl2 hrm2 hb0 hc rfl hG
         refine h.mono fun e w' hp => ?_
         simp only [q6_]
         unfold zcB_ at hp
         cases hq : v8_ (w2_ v4_ q6_ f) (min n 9) rm s2 with
         | none => rw [hq] at hp; exact hp
         | some y => rw [hq] at hp; exact hp
     by_cases h6 : c = 124
     · subst h6
       rw [if_pos de_]
       cases hc : v7_ 58 r with
       | none => exact zk1_ r rm S R F w nSR nSF nRF gnS gnR hS hR2 hF hsl2 hrm2 hb0 hc hG
       | some z =>
         obtain ⟨n, s2⟩ := z
         have h := zk3_ r rm f (zc5_ f) n s2 _ om_ om_ S R F w nSR nSF nRF gnS gnR hS hR2 hF hsl2 hrm2 hb0 hc rfl hG
         refine h.mono fun e w' hp => ?_
         simp only [q6_]
         unfold zcB_ at hp
         cases hq : v8_ (w2_ v4_ q6_ f) (min n 9) rm s2 with
         | none => rw [hq] at hp; exact hp
         | some y => rw [hq] at hp; exact hp
     rw [if_neg (by simp [h5, h6])]
     have hne : ∀ d : UInt8, c ≠ d → (d == c) = false := fun d hd => by simpa using fun h => hd h.symm
     by_cases h0 : c = 32
     · subst h0
       exact zkQ_ 32 r rm S R F w nSR nSF nRF gnS gnR hS hR2 hF hsl2 hrm2 hb0 de_ hG
     · exact zkR_ c r rm S R F w nSR nSF nRF gnS gnR hS hR2 hF hsl2 hrm2 hb0 (by simp [Lib.indexByte, hne 32 h0, hne 115 h1, hne 112 h2, hne 97 h3, hne 111 h4, hne 38 h5, hne 124 h6]) hG
end Go.Proofs.YtiplnofaejpeoaaGreatDoor
