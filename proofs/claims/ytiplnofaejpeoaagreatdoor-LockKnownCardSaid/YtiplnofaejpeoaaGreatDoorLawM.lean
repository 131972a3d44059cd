/- The laws of layer 11: LockBack. -/
import Derived.Test.YtiplnofaejpeoaaGreatDoorLRefT
import Derived.Test.YtiplnofaejpeoaaGreatDoorLockU
import Derived.Maps.AppendAt
import Derived.Test.YtiplnofaejpeoaaGreatDoorLawD0
set_option maxRecDepth 100000
set_option maxHeartbeats 16000000
set_option linter.unusedSimpArgs false
set_option linter.unusedVariables false
namespace Go.Proofs.YtiplnofaejpeoaaGreatDoor
open Go.RowKit
def RRPost (n : Nat) (w : World) (o : Option (LT × List UInt8 × Nat)) (e : Ending) (w' : World) : Prop := GL [] w w' ∧
 match o with
 | none => ∃ (k nn rr : Int) (t : List UInt8) (ad : Option Addr) (m c : Nat), e = .returned (.tuple #[.agg #[.int .u8 k, .string (bs t), .int .i64 nn, .slice ad m c], .int .i64 (-1), .int .i64 rr])
 | some (x, s, r) => ∃ v, e = .returned (.tuple #[v, .int .i64 ((n - s.length : Nat) : Int), .int .i64 r]) ∧ y2_ (fun b => w.heap.size ≤ b) w' x v
def zcL_ (k : Int) (tot : Option (List LT × List UInt8 × Nat)) : Option (LT × List UInt8 × Nat) := tot.map fun z => (.mk k [] 0 z.1, z.2.1, z.2.2)
def RRIH (f : Nat) : Prop := ∀ (s : List UInt8) (a room : Nat) (w : World), room < f → room ≤ 64 → a ≤ s.length → s.length ≤ 100000000000 →
 Calls Tryz.prog 58 #[.string (bs s), .int .i64 a, .int .i64 room] w (RRPost s.length w (w2_ v1_ q2_ f room (s.drop a)))
theorem zbB_ {n : Nat} {w w' : World} {k nn rr : Int} {t : List UInt8} {ad : Option Addr} {m c : Nat} (hg : GL [] w w') : RRPost n w none (.returned (.tuple #[.agg #[.int .u8 k, .string (bs t), .int .i64 nn, .slice ad m c], .int .i64 (-1), .int .i64 rr])) w' :=
 ⟨hg, k, nn, rr, t, ad, m, c, rfl⟩
theorem zap_ {w : World} {b : Nat} (h : b < w.heap.size) (o : Obj) (j : Nat) : (w.alloc o).cell? ⟨b, j, none⟩ = w.cell? ⟨b, j, none⟩ := by
 simp only [World.cell?, Below.heap_alloc w o b h]
theorem znI_ (s : List UInt8) (a : Nat) (room : Int) (ha : a = s.length) (hs : s.length ≤ 100000000000) (w : World) :
  Calls Tryz.prog 58 #[.string (bs s), .int .i64 a, .int .i64 room] w (RRPost s.length w none) := by
 have i1 : ((a : Int)) = s.length := by omega
 go_enter Tryz.func58, Tryz.ntmps58
 go_wp2
 refine bodyPost_ret (v := .tuple #[.agg #[.int .u8 0, .string (bs []), .int .i64 0, .slice none 0 0], .int .i64 (-1), .int .i64 0]) (by simp [results, Tryz.results58, go_sem, zap_]) rfl ?_
 exact zbB_ gl_
theorem znJ_ (s : List UInt8) (a : Nat) (hlt : a < s.length) (hs : s.length ≤ 100000000000) (w : World) :
  Calls Tryz.prog 58 #[.string (bs s), .int .i64 a, .int .i64 0] w (RRPost s.length w none) := by
 have i1 : (a : Int) < s.length := by omega
 go_enter Tryz.func58, Tryz.ntmps58
 go_wp2
 refine bodyPost_ret (v := .tuple #[.agg #[.int .u8 0, .string (bs []), .int .i64 0, .slice none 0 0], .int .i64 (-1), .int .i64 0]) (by simp [results, Tryz.results58, go_sem, zap_]) rfl ?_
 exact zbB_ gl_
theorem rr1N (s : List UInt8) (a : Nat) (rm : Nat) (hrm : rm ≤ 64) (hlt : a < s.length) (hc : s[a] = 115) (hn : v1_ (s.drop (a + 1)) = none) (hs : s.length ≤ 100000000000) (w : World) :
  Calls Tryz.prog 58 #[.string (bs s), .int .i64 a, .int .i64 ((rm : Int) + 1)] w (RRPost s.length w none) := by
 have HV := Lib.hid (zh7_ hn)
 clear hn
 have i1 : (a : Int) < s.length := by omega
 have hb0 : ((rm : Int) + 1 == 0) = false := by simp; omega
 have b115 : (((s[a].toNat : Nat) : Int) == 115) = true := by rw [hc]; rfl
 clear hc
 go_enter Tryz.func58, Tryz.ntmps58
 go_wp2_with fail
 refine (zet_ s _ om_ om_ om_ _).mono ?_
 rintro e w1 ⟨rfl, hb1⟩
 rw [show ((a : Int) + 1).toNat = a + 1 by omega, HV.out]
 have HB1 := Lib.hid (z9_ (z3_ w zl_) hb1 si_)
 have f1 := z2_ HB1.out
 have f2 := z5_ HB1.out
 have f3 := z0_ HB1.out
 have hg1 : GL [] w w1 := z4_ hb1 (z6_ (z1_ _ _) _)
 go_wp2
 refine bodyPost_ret (v := .tuple #[.agg #[.int .u8 0, .string (bs []), .int .i64 0, .slice none 0 0], .int .i64 (-1), .int .i64 0]) (by simp [results, Tryz.results58, go_sem, zap_, f1, f2, f3]) rfl ?_
 exact zbB_ gl_
theorem rr1Y (s : List UInt8) (a : Nat) (rm : Nat) (hrm : rm ≤ 64) (hlt : a < s.length) (t r : List UInt8) (hc : s[a] = 115) (hn : v1_ (s.drop (a + 1)) = some (t, r)) (hs : s.length ≤ 100000000000) (w : World) :
  Calls Tryz.prog 58 #[.string (bs s), .int .i64 a, .int .i64 ((rm : Int) + 1)] w (RRPost s.length w (some (.mk 1 t 0 [], r, rm))) := by
 obtain ⟨hv, ht, hr, hl1, hl2, hl3⟩ := zh8_ hn
 have HV := Lib.hid hv
 have HT := Lib.hid ht
 have hrl : s.length - r.length = a + 1 + t.length := by omega
 clear hn hv ht
 have i1 : (a : Int) < s.length := by omega
 have hb0 : ((rm : Int) + 1 == 0) = false := by simp; omega
 have b115 : (((s[a].toNat : Nat) : Int) == 115) = true := by rw [hc]; rfl
 clear hc
 go_enter Tryz.func58, Tryz.ntmps58
 go_wp2_with fail
 refine (zet_ s _ om_ om_ om_ _).mono ?_
 rintro e w1 ⟨rfl, hb1⟩
 rw [show ((a : Int) + 1).toNat = a + 1 by omega, HV.out]
 have HB1 := Lib.hid (z9_ (z3_ w zl_) hb1 si_)
 have f1 := z2_ HB1.out
 have f2 := z5_ HB1.out
 have f3 := z0_ HB1.out
 have hg1 : GL [] w w1 := z4_ hb1 (z6_ (z1_ _ _) _)
 have k1 : (0 : Int) ≤ (a : Int) + 1 := by omega
 have k2 : (a : Int) + 1 ≤ ((a + 1 + t.length : Nat) : Int) := by omega
 have k3 : ((a + 1 + t.length : Nat) : Int) ≤ s.length := by omega
 have e1 : ((a : Int) + 1).toNat = a + 1 := by omega
 have e2 : ((a + 1 + t.length : Nat) : Int).toNat - (a + 1) = t.length := by omega
 have e3 : a + 1 + t.length - (a + 1) = t.length := by omega
 have et := HT.out.symm
 go_wp2
 refine bodyPost_ret (v := .tuple #[.agg #[.int .u8 1, .string (bs t), .int .i64 0, .slice none 0 0], .int .i64 ((a + 1 + t.length : Nat) : Int), .int .i64 rm]) (by simp [results, Tryz.results58, go_sem, zap_, f1, f2, f3, e1, e2, e3, et]) rfl ?_
 rw [← hrl]
 exact ⟨gl_, _, rfl, by unfold y2_; exact ⟨by omega, by omega, by first | (simp; done) | omega, by simp, _, rfl, .inl ⟨none, 0, rfl, rfl⟩⟩⟩
theorem rr2N (s : List UInt8) (a : Nat) (rm : Nat) (hrm : rm ≤ 64) (hlt : a < s.length) (hc : s[a] = 112) (hn : v1_ (s.drop (a + 1)) = none) (hs : s.length ≤ 100000000000) (w : World) :
  Calls Tryz.prog 58 #[.string (bs s), .int .i64 a, .int .i64 ((rm : Int) + 1)] w (RRPost s.length w none) := by
 have HV := Lib.hid (zh7_ hn)
 clear hn
 have i1 : (a : Int) < s.length := by omega
 have hb0 : ((rm : Int) + 1 == 0) = false := by simp; omega
 have b115 : (((s[a].toNat : Nat) : Int) == 115) = false := by rw [hc]; rfl
 have b112 : (((s[a].toNat : Nat) : Int) == 112) = true := by rw [hc]; rfl
 clear hc
 go_enter Tryz.func58, Tryz.ntmps58
 go_wp2_with fail
 refine (zet_ s _ om_ om_ om_ _).mono ?_
 rintro e w1 ⟨rfl, hb1⟩
 rw [show ((a : Int) + 1).toNat = a + 1 by omega, HV.out]
 have HB1 := Lib.hid (z9_ (z3_ w zl_) hb1 si_)
 have f1 := z2_ HB1.out
 have f2 := z5_ HB1.out
 have f3 := z0_ HB1.out
 have hg1 : GL [] w w1 := z4_ hb1 (z6_ (z1_ _ _) _)
 go_wp2
 refine bodyPost_ret (v := .tuple #[.agg #[.int .u8 0, .string (bs []), .int .i64 0, .slice none 0 0], .int .i64 (-1), .int .i64 0]) (by simp [results, Tryz.results58, go_sem, zap_, f1, f2, f3]) rfl ?_
 exact zbB_ gl_
theorem rr2Y (s : List UInt8) (a : Nat) (rm : Nat) (hrm : rm ≤ 64) (hlt : a < s.length) (t r : List UInt8) (hc : s[a] = 112) (hn : v1_ (s.drop (a + 1)) = some (t, r)) (hs : s.length ≤ 100000000000) (w : World) :
  Calls Tryz.prog 58 #[.string (bs s), .int .i64 a, .int .i64 ((rm : Int) + 1)] w (RRPost s.length w (some (.mk 2 t 0 [], r, rm))) := by
 obtain ⟨hv, ht, hr, hl1, hl2, hl3⟩ := zh8_ hn
 have HV := Lib.hid hv
 have HT := Lib.hid ht
 have hrl : s.length - r.length = a + 1 + t.length := by omega
 clear hn hv ht
 have i1 : (a : Int) < s.length := by omega
 have hb0 : ((rm : Int) + 1 == 0) = false := by simp; omega
 have b115 : (((s[a].toNat : Nat) : Int) == 115) = false := by rw [hc]; rfl
 have b112 : (((s[a].toNat : Nat) : Int) == 112) = true := by rw [hc]; rfl
 clear hc
 go_enter Tryz.func58, Tryz.ntmps58
 go_wp2_with fail
 refine (zet_ s _ om_ om_ om_ _).mono ?_
 rintro e w1 ⟨rfl, hb1⟩
 rw [show ((a : Int) + 1).toNat = a + 1 by omega, HV.out]
 have HB1 := Lib.hid (z9_ (z3_ w zl_) hb1 si_)
 have f1 := z2_ HB1.out
 have f2 := z5_ HB1.out
 have f3 := z0_ HB1.out
 have hg1 : GL [] w w1 := z4_ hb1 (z6_ (z1_ _ _) _)
 have k1 : (0 : Int) ≤ (a : Int) + 1 := by omega
 have k2 : (a : Int) + 1 ≤ ((a + 1 + t.length : Nat) : Int) := by omega
 have k3 : ((a + 1 + t.length : Nat) : Int) ≤ s.length := by omega
 have e1 : ((a : Int) + 1).toNat = a + 1 := by omega
 have e2 : ((a + 1 + t.length : Nat) : Int).toNat - (a + 1) = t.length := by omega
 have e3 : a + 1 + t.length - (a + 1) = t.length := by omega
 have et := HT.out.symm
 go_wp2
 refine bodyPost_ret (v := .tuple #[.agg #[.int .u8 2, .string (bs t), .int .i64 0, .slice none 0 0], .int .i64 ((a + 1 + t.length : Nat) : Int), .int .i64 rm]) (by simp [results, Tryz.results58, go_sem, zap_, f1, f2, f3, e1, e2, e3, et]) rfl ?_
 rw [← hrl]
 exact ⟨gl_, _, rfl, by unfold y2_; exact ⟨by omega, by omega, by first | (simp; done) | omega, by simp, _, rfl, .inl ⟨none, 0, rfl, rfl⟩⟩⟩
theorem rr3N (s : List UInt8) (a : Nat) (rm : Nat) (hrm : rm ≤ 64) (hlt : a < s.length) (hc : s[a] = 97) (hn : v7_ 59 (s.drop (a + 1)) = none) (hs : s.length ≤ 100000000000) (w : World) :
  Calls Tryz.prog 58 #[.string (bs s), .int .i64 a, .int .i64 ((rm : Int) + 1)] w (RRPost s.length w none) := by
 have HV := Lib.hid (zeq_ 59 de_ hn)
 clear hn
 have i1 : (a : Int) < s.length := by omega
 have hb0 : ((rm : Int) + 1 == 0) = false := by simp; omega
 have b115 : (((s[a].toNat : Nat) : Int) == 115) = false := by rw [hc]; rfl
 have b112 : (((s[a].toNat : Nat) : Int) == 112) = false := by rw [hc]; rfl
 have b97 : (((s[a].toNat : Nat) : Int) == 97) = true := by rw [hc]; rfl
 clear hc
 go_enter Tryz.func58, Tryz.ntmps58
 go_wp2_with fail
 refine (zb8_ 59 s _ _ om_ om_ rfl om_ _).mono ?_
 rintro e w1 ⟨rfl, rfl⟩
 rw [show ((a : Int) + 1).toNat = a + 1 by omega, HV.out]
 go_wp2
 refine bodyPost_ret (v := .tuple #[.agg #[.int .u8 3, .string (bs []), .int .i64 0, .slice none 0 0], .int .i64 (-1), .int .i64 rm]) (by simp [results, Tryz.results58, go_sem, zap_]) rfl ?_
 exact zbB_ gl_
theorem rr3Y (s : List UInt8) (a : Nat) (rm : Nat) (hrm : rm ≤ 64) (hlt : a < s.length) (nn : Nat) (r : List UInt8) (hc : s[a] = 97) (hn : v7_ 59 (s.drop (a + 1)) = some (nn, r)) (hs : s.length ≤ 100000000000) (w : World) :
  Calls Tryz.prog 58 #[.string (bs s), .int .i64 a, .int .i64 ((rm : Int) + 1)] w (RRPost s.length w (some (.mk 3 [] nn [], r, rm))) := by
 have HV := Lib.hid (zdk_ 59 de_ om_ hn)
 have hnn := (zaF_ hn).2
 clear hn
 have i1 : (a : Int) < s.length := by omega
 have hb0 : ((rm : Int) + 1 == 0) = false := by simp; omega
 have b115 : (((s[a].toNat : Nat) : Int) == 115) = false := by rw [hc]; rfl
 have b112 : (((s[a].toNat : Nat) : Int) == 112) = false := by rw [hc]; rfl
 have b97 : (((s[a].toNat : Nat) : Int) == 97) = true := by rw [hc]; rfl
 clear hc
 go_enter Tryz.func58, Tryz.ntmps58
 go_wp2_with fail
 refine (zb8_ 59 s _ _ om_ om_ rfl om_ _).mono ?_
 rintro e w1 ⟨rfl, rfl⟩
 rw [show ((a : Int) + 1).toNat = a + 1 by omega, HV.out]
 go_wp2
 refine bodyPost_ret (v := .tuple #[.agg #[.int .u8 3, .string (bs []), .int .i64 nn, .slice none 0 0], .int .i64 ((s.length - r.length : Nat) : Int), .int .i64 rm]) (by simp [results, Tryz.results58, go_sem, zap_]) rfl ?_
 exact ⟨gl_, _, rfl, by unfold y2_; exact ⟨by omega, by omega, by first | (simp; done) | omega, by simp, _, rfl, .inl ⟨none, 0, rfl, rfl⟩⟩⟩
theorem rr4N (s : List UInt8) (a : Nat) (rm : Nat) (hrm : rm ≤ 64) (hlt : a < s.length) (hc : s[a] = 111) (hn : v7_ 59 (s.drop (a + 1)) = none) (hs : s.length ≤ 100000000000) (w : World) :
  Calls Tryz.prog 58 #[.string (bs s), .int .i64 a, .int .i64 ((rm : Int) + 1)] w (RRPost s.length w none) := by
 have HV := Lib.hid (zeq_ 59 de_ hn)
 clear hn
 have i1 : (a : Int) < s.length := by omega
 have hb0 : ((rm : Int) + 1 == 0) = false := by simp; omega
 have b115 : (((s[a].toNat : Nat) : Int) == 115) = false := by rw [hc]; rfl
 have b112 : (((s[a].toNat : Nat) : Int) == 112) = false := by rw [hc]; rfl
 have b97 : (((s[a].toNat : Nat) : Int) == 97) = false := by rw [hc]; rfl
 have b111 : (((s[a].toNat : Nat) : Int) == 111) = true := by rw [hc]; rfl
 clear hc
 go_enter Tryz.func58, Tryz.ntmps58
 go_wp2_with fail
 refine (zb8_ 59 s _ _ om_ om_ rfl om_ _).mono ?_
 rintro e w1 ⟨rfl, rfl⟩
 rw [show ((a : Int) + 1).toNat = a + 1 by omega, HV.out]
 go_wp2
 refine bodyPost_ret (v := .tuple #[.agg #[.int .u8 4, .string (bs []), .int .i64 0, .slice none 0 0], .int .i64 (-1), .int .i64 rm]) (by simp [results, Tryz.results58, go_sem, zap_]) rfl ?_
 exact zbB_ gl_
theorem rr4Y (s : List UInt8) (a : Nat) (rm : Nat) (hrm : rm ≤ 64) (hlt : a < s.length) (nn : Nat) (r : List UInt8) (hc : s[a] = 111) (hn : v7_ 59 (s.drop (a + 1)) = some (nn, r)) (hs : s.length ≤ 100000000000) (w : World) :
  Calls Tryz.prog 58 #[.string (bs s), .int .i64 a, .int .i64 ((rm : Int) + 1)] w (RRPost s.length w (some (.mk 4 [] nn [], r, rm))) := by
 have HV := Lib.hid (zdk_ 59 de_ om_ hn)
 have hnn := (zaF_ hn).2
 clear hn
 have i1 : (a : Int) < s.length := by omega
 have hb0 : ((rm : Int) + 1 == 0) = false := by simp; omega
 have b115 : (((s[a].toNat : Nat) : Int) == 115) = false := by rw [hc]; rfl
 have b112 : (((s[a].toNat : Nat) : Int) == 112) = false := by rw [hc]; rfl
 have b97 : (((s[a].toNat : Nat) : Int) == 97) = false := by rw [hc]; rfl
 have b111 : (((s[a].toNat : Nat) : Int) == 111) = true := by rw [hc]; rfl
 clear hc
 go_enter Tryz.func58, Tryz.ntmps58
 go_wp2_with fail
 refine (zb8_ 59 s _ _ om_ om_ rfl om_ _).mono ?_
 rintro e w1 ⟨rfl, rfl⟩
 rw [show ((a : Int) + 1).toNat = a + 1 by omega, HV.out]
 go_wp2
 refine bodyPost_ret (v := .tuple #[.agg #[.int .u8 4, .string (bs []), .int .i64 nn, .slice none 0 0], .int .i64 ((s.length - r.length : Nat) : Int), .int .i64 rm]) (by simp [results, Tryz.results58, go_sem, zap_]) rfl ?_
 exact ⟨gl_, _, rfl, by unfold y2_; exact ⟨by omega, by omega, by first | (simp; done) | omega, by simp, _, rfl, .inl ⟨none, 0, rfl, rfl⟩⟩⟩
theorem znS_ (s : List UInt8) (a : Nat) (rm : Nat) (hrm : rm ≤ 64) (hlt : a < s.length) (h1 : (((s[a].toNat : Nat) : Int) == 115) = false) (h2 : (((s[a].toNat : Nat) : Int) == 112) = false) (h3 : (((s[a].toNat : Nat) : Int) == 97) = false) (h4 : (((s[a].toNat : Nat) : Int) == 111) = false) (h5 : (((s[a].toNat : Nat) : Int) == 124) = false) (h6 : (((s[a].toNat : Nat) : Int) != 38) = true) (hs : s.length ≤ 100000000000) (w : World) :
  Calls Tryz.prog 58 #[.string (bs s), .int .i64 a, .int .i64 ((rm : Int) + 1)] w (RRPost s.length w none) := by
 have i1 : (a : Int) < s.length := by omega
 have hb0 : ((rm : Int) + 1 == 0) = false := by simp; omega
 go_enter Tryz.func58, Tryz.ntmps58
 go_wp2
 refine bodyPost_ret (v := .tuple #[.agg #[.int .u8 0, .string (bs []), .int .i64 0, .slice none 0 0], .int .i64 (-1), .int .i64 0]) (by simp [results, Tryz.results58, go_sem, zap_]) rfl ?_
 exact zbB_ gl_
theorem rr5N (s : List UInt8) (a : Nat) (rm : Nat) (hrm : rm ≤ 64) (hlt : a < s.length) (hc : s[a] = 38) (hn : v7_ 58 (s.drop (a + 1)) = none) (hs : s.length ≤ 100000000000) (w : World) :
  Calls Tryz.prog 58 #[.string (bs s), .int .i64 a, .int .i64 ((rm : Int) + 1)] w (RRPost s.length w none) := by
 have HV := Lib.hid (zeq_ 58 de_ hn)
 clear hn
 have i1 : (a : Int) < s.length := by omega
 have hb0 : ((rm : Int) + 1 == 0) = false := by simp; omega
 have b115 : (((s[a].toNat : Nat) : Int) == 115) = false := by rw [hc]; rfl
 have b112 : (((s[a].toNat : Nat) : Int) == 112) = false := by rw [hc]; rfl
 have b97 : (((s[a].toNat : Nat) : Int) == 97) = false := by rw [hc]; rfl
 have b111 : (((s[a].toNat : Nat) : Int) == 111) = false := by rw [hc]; rfl
 have b124 : (((s[a].toNat : Nat) : Int) == 124) = false := by rw [hc]; rfl
 have b38 : (((s[a].toNat : Nat) : Int) != 38) = false := by rw [hc]; rfl
 clear hc
 go_enter Tryz.func58, Tryz.ntmps58
 go_wp2_with fail
 refine (zb8_ 58 s _ _ om_ om_ rfl om_ _).mono ?_
 rintro e w1 ⟨rfl, rfl⟩
 rw [show ((a : Int) + 1).toNat = a + 1 by omega, HV.out]
 go_wp2
 refine bodyPost_ret (v := .tuple #[.agg #[.int .u8 0, .string (bs []), .int .i64 0, .slice none 0 0], .int .i64 (-1), .int .i64 0]) (by simp [results, Tryz.results58, go_sem, zap_]) rfl ?_
 exact zbB_ gl_
theorem rr5B (s : List UInt8) (a : Nat) (rm : Nat) (hrm : rm ≤ 64) (hlt : a < s.length) (nn : Nat) (r : List UInt8) (hc : s[a] = 38) (hn : v7_ 58 (s.drop (a + 1)) = some (nn, r)) (h8 : 8 < nn) (hs : s.length ≤ 100000000000) (w : World) :
  Calls Tryz.prog 58 #[.string (bs s), .int .i64 a, .int .i64 ((rm : Int) + 1)] w (RRPost s.length w none) := by
 have HV := Lib.hid (zdk_ 58 de_ om_ hn)
 have hnn := (zaF_ hn).2
 clear hn
 have i1 : (a : Int) < s.length := by omega
 have hb0 : ((rm : Int) + 1 == 0) = false := by simp; omega
 have b115 : (((s[a].toNat : Nat) : Int) == 115) = false := by rw [hc]; rfl
 have b112 : (((s[a].toNat : Nat) : Int) == 112) = false := by rw [hc]; rfl
 have b97 : (((s[a].toNat : Nat) : Int) == 97) = false := by rw [hc]; rfl
 have b111 : (((s[a].toNat : Nat) : Int) == 111) = false := by rw [hc]; rfl
 have b124 : (((s[a].toNat : Nat) : Int) == 124) = false := by rw [hc]; rfl
 have b38 : (((s[a].toNat : Nat) : Int) != 38) = false := by rw [hc]; rfl
 clear hc
 have b8 : decide (8 < (nn : Int)) = true := by simp; omega
 go_enter Tryz.func58, Tryz.ntmps58
 go_wp2_with fail
 refine (zb8_ 58 s _ _ om_ om_ rfl om_ _).mono ?_
 rintro e w1 ⟨rfl, rfl⟩
 rw [show ((a : Int) + 1).toNat = a + 1 by omega, HV.out]
 go_wp2
 refine bodyPost_ret (v := .tuple #[.agg #[.int .u8 0, .string (bs []), .int .i64 0, .slice none 0 0], .int .i64 (-1), .int .i64 0]) (by simp [results, Tryz.results58, go_sem, zap_]) rfl ?_
 exact zbB_ gl_
theorem rr6N (s : List UInt8) (a : Nat) (rm : Nat) (hrm : rm ≤ 64) (hlt : a < s.length) (hc : s[a] = 124) (hn : v7_ 58 (s.drop (a + 1)) = none) (hs : s.length ≤ 100000000000) (w : World) :
  Calls Tryz.prog 58 #[.string (bs s), .int .i64 a, .int .i64 ((rm : Int) + 1)] w (RRPost s.length w none) := by
 have HV := Lib.hid (zeq_ 58 de_ hn)
 clear hn
 have i1 : (a : Int) < s.length := by omega
 have hb0 : ((rm : Int) + 1 == 0) = false := by simp; omega
 have b115 : (((s[a].toNat : Nat) : Int) == 115) = false := by rw [hc]; rfl
 have b112 : (((s[a].toNat : Nat) : Int) == 112) = false := by rw [hc]; rfl
 have b97 : (((s[a].toNat : Nat) : Int) == 97) = false := by rw [hc]; rfl
 have b111 : (((s[a].toNat : Nat) : Int) == 111) = false := by rw [hc]; rfl
 have b124 : (((s[a].toNat : Nat) : Int) == 124) = true := by rw [hc]; rfl
 clear hc
 go_enter Tryz.func58, Tryz.ntmps58
 go_wp2_with fail
 refine (zb8_ 58 s _ _ om_ om_ rfl om_ _).mono ?_
 rintro e w1 ⟨rfl, rfl⟩
 rw [show ((a : Int) + 1).toNat = a + 1 by omega, HV.out]
 go_wp2
 refine bodyPost_ret (v := .tuple #[.agg #[.int .u8 0, .string (bs []), .int .i64 0, .slice none 0 0], .int .i64 (-1), .int .i64 0]) (by simp [results, Tryz.results58, go_sem, zap_]) rfl ?_
 exact zbB_ gl_
theorem rr6B (s : List UInt8) (a : Nat) (rm : Nat) (hrm : rm ≤ 64) (hlt : a < s.length) (nn : Nat) (r : List UInt8) (hc : s[a] = 124) (hn : v7_ 58 (s.drop (a + 1)) = some (nn, r)) (h8 : 8 < nn) (hs : s.length ≤ 100000000000) (w : World) :
  Calls Tryz.prog 58 #[.string (bs s), .int .i64 a, .int .i64 ((rm : Int) + 1)] w (RRPost s.length w none) := by
 have HV := Lib.hid (zdk_ 58 de_ om_ hn)
 have hnn := (zaF_ hn).2
 clear hn
 have i1 : (a : Int) < s.length := by omega
 have hb0 : ((rm : Int) + 1 == 0) = false := by simp; omega
 have b115 : (((s[a].toNat : Nat) : Int) == 115) = false := by rw [hc]; rfl
 have b112 : (((s[a].toNat : Nat) : Int) == 112) = false := by rw [hc]; rfl
 have b97 : (((s[a].toNat : Nat) : Int) == 97) = false := by rw [hc]; rfl
 have b111 : (((s[a].toNat : Nat) : Int) == 111) = false := by rw [hc]; rfl
 have b124 : (((s[a].toNat : Nat) : Int) == 124) = true := by rw [hc]; rfl
 clear hc
 have b8 : decide (8 < (nn : Int)) = true := by simp; omega
 go_enter Tryz.func58, Tryz.ntmps58
 go_wp2_with fail
 refine (zb8_ 58 s _ _ om_ om_ rfl om_ _).mono ?_
 rintro e w1 ⟨rfl, rfl⟩
 rw [show ((a : Int) + 1).toNat = a + 1 by omega, HV.out]
 go_wp2
 refine bodyPost_ret (v := .tuple #[.agg #[.int .u8 0, .string (bs []), .int .i64 0, .slice none 0 0], .int .i64 (-1), .int .i64 0]) (by simp [results, Tryz.results58, go_sem, zap_]) rfl ?_
 exact zbB_ gl_
def RSt (s : List UInt8) (LB : Nat) (k : Int) (w : World) (f m : Nat) (tot : Option (List LT × List UInt8 × Nat)) (rm : Nat) (rv ev iv : Value) (wr : World) : Prop :=
 ∃ (j rj aj : Nat) (l : List LT) (cs : List Value) (a : Option Addr) (nn cap : Nat), j ≤ m ∧ iv = .int .i64 j ∧ ev = .int .i64 aj ∧ rv = .int .i64 rj ∧ l.length = j ∧ rj ≤ rm ∧ aj ≤ s.length ∧ LB < wr.heap.size ∧
  Hid (GL [] w wr) ∧ Hid (wr.heap[w.heap.size]? = some (.cells #[.int .u8 0, .string (bs []), .int .i64 0, .slice none 0 0] 25 (0, 0))) ∧
  Hid (wr.heap[LB]? = some (.cells #[.int .u8 k, .string (bs []), .int .i64 0, .slice a nn cap] 25 (0, 0))) ∧ Hid (wr.ownsRow (LB + 1) 25 4 (.slice a nn cap) j cs) ∧
  Hid (RowV (fun b => w.heap.size ≤ b ∧ b ≠ w.heap.size ∧ b ≠ LB ∧ some b ≠ (Value.slice a nn cap).ownBlock) wr l cs) ∧
  Hid ((match v8_ (w2_ v1_ q2_ f) (m - j) rj (s.drop aj) with | none => none | some (l', s', r') => some (l ++ l', s', r')) = tot)
theorem zib_ {f d rj : Nat} {sj : List UInt8} {l : List LT} {tot : Option (List LT × List UInt8 × Nat)} (hd : 0 < d) (h : (match v8_ (w2_ v1_ q2_ f) d rj sj with | none => none | some (l', s', r') => some (l ++ l', s', r')) = tot) (hx : w2_ v1_ q2_ f rj sj = none) : tot = none := by
 obtain ⟨e, rfl⟩ : ∃ e, d = e + 1 := ⟨d - 1, by omega⟩
 rw [v8_, hx] at h
 exact h.symm
theorem zic_ {f d rj r' : Nat} {sj s' : List UInt8} {l : List LT} {x : LT} {tot : Option (List LT × List UInt8 × Nat)} (hd : 0 < d) (h : (match v8_ (w2_ v1_ q2_ f) d rj sj with | none => none | some (l', s', r') => some (l ++ l', s', r')) = tot) (hx : w2_ v1_ q2_ f rj sj = some (x, s', r')) :
  (match v8_ (w2_ v1_ q2_ f) (d - 1) r' s' with | none => none | some (l', s', r') => some ((l ++ [x]) ++ l', s', r')) = tot := by
 obtain ⟨e, rfl⟩ : ∃ e, d = e + 1 := ⟨d - 1, by omega⟩
 rw [v8_, hx] at h
 simp only at h
 rw [← h, Nat.add_sub_cancel]
 cases v8_ (w2_ v1_ q2_ f) e r' s' with
 | none => rfl
 | some z => simp
theorem zfL_ {w : World} {base e size n : Nat} {v : Value} {xs : List Value} (h : w.ownsRow base e size v n xs) : ∀ g, v.ownBlock = some g → g < w.heap.size := by
 intro g hg
 rcases h.2 with ⟨rfl, _⟩ | ⟨g', cap, cur, rfl, _, h', _⟩
 · simp [Value.ownBlock] at hg
 · simp [Value.ownBlock] at hg
   subst hg
   exact z0_ h'
theorem zid_ {s : List UInt8} {LB : Nat} {k : Int} {w : World} {f m rm : Nat} {tot : Option (List LT × List UInt8 × Nat)} {j rj r' : Nat} {s' : List UInt8} {l : List LT} {cs : List Value} {a ad4 : Option Addr} {nn cap n4 cp4 : Nat} {wr w1 w4 : World} {X Y : Obj} {x : LT} {u0 u1 u2 u3 : Value}
  (hlt : j < m) (hll : l.length = j) (hrj : rj ≤ rm) (hlen : r' < rj) (hLs : LB < wr.heap.size) (hRSL : w.heap.size < LB)
  (hgr : GL [] w wr) (hgl1 : GL [] wr w1) (hQ1 : w1.heap[w.heap.size]? = some (.cells #[.int .u8 0, .string (bs []), .int .i64 0, .slice none 0 0] 25 (0, 0)))
  (hL4 : w4.heap[LB]? = some (.cells #[.int .u8 k, .string (bs []), .int .i64 0, .slice a nn cap] 25 (0, 0)))
  (hown : wr.ownsRow (LB + 1) 25 4 (.slice a nn cap) j cs) (hrv : RowV (fun b => w.heap.size ≤ b ∧ b ≠ w.heap.size ∧ b ≠ LB ∧ some b ≠ (Value.slice a nn cap).ownBlock) wr l cs)
  (hlv : y2_ (fun b => wr.heap.size ≤ b) w1 x (.agg #[u0, u1, u2, u3])) (hown4 : w4.ownsRow (LB + 1) 25 4 (.slice ad4 n4 cp4) (j + 1) (cs ++ [u0, u1, u2, u3]))
  (hgr4 : ((w1.alloc X).alloc Y).grownBy w4 (Value.slice a nn cap).ownBlock)
  (hat4 : (Value.slice ad4 n4 cp4).ownBlock = (Value.slice a nn cap).ownBlock ∨ (Value.slice ad4 n4 cp4).ownBlock = some ((w1.alloc X).alloc Y).heap.size)
  (hdr : s.drop (s.length - s'.length) = s') (hct : (match v8_ (w2_ v1_ q2_ f) (m - j - 1) r' s' with | none => none | some (l', s', r') => some ((l ++ [x]) ++ l', s', r')) = tot) :
  RSt s LB k w f m tot rm (.int .i64 r') (.int .i64 ((s.length - s'.length : Nat) : Int)) (.int .i64 ((j : Int) + 1)) (w4.setCell ⟨LB, 3, none⟩ (.slice ad4 n4 cp4)) := by
 have hob := zal_ hown
 have hol := zfL_ hown
 have hob4 := zal_ hown4
 have h1 := hgr.size
 have h2 := hgl1.size
 have h3 := hgr4.size
 simp only [World.size_alloc] at h3
 have hkeep : ∀ b, b < w1.heap.size → some b ≠ (Value.slice a nn cap).ownBlock → b ≠ LB → (w4.setCell ⟨LB, 3, none⟩ (.slice ad4 n4 cp4)).heap[b]? = w1.heap[b]? := fun b hb ho hl => by
  rw [Below.heap_setCell _ _ _ _ (by simpa using hl), hgr4.block b so_ ho, Below.heap_alloc _ _ _ so_, Below.heap_alloc _ _ _ hb]
 have hnew : ∀ b, b < w1.heap.size → some b ≠ (Value.slice a nn cap).ownBlock → some b ≠ (Value.slice ad4 n4 cp4).ownBlock := fun b hb ho => by
  rcases hat4 with h | h
  · rw [h]; exact ho
  · rw [h]; simp; omega
 have hlow : ∀ b, b < LB → some b ≠ (Value.slice a nn cap).ownBlock := fun b hb h => by have := hob b h.symm; omega
 refine ⟨j + 1, r', s.length - s'.length, l ++ [x], cs ++ [u0, u1, u2, u3], ad4, n4, cp4, by omega, by simp, rfl, rfl, by simp [hll], by omega, by omega, by simp [World.setCell]; omega, Lib.hid ?_, Lib.hid ?_, Lib.hid ?_, Lib.hid ?_, Lib.hid ?_, Lib.hid ?_⟩
 · exact x6_ (zaL_ hgr4 (z6_ (z6_ (x1_ hgl1 hgr si_) X) Y) (fun r hr => .inr (by have := hob r hr; omega))) (.inr so_) _
 · rw [hkeep w.heap.size om_ (hlow _ om_) om_]; exact hQ1
 · exact x7_ hL4 3 (.slice ad4 n4 cp4)
 · exact w3_ hown4 (p := ⟨LB, 3, none⟩) (fun h => by have := hob4 LB h.symm; omega) _
 · refine zdZ_ (za5_ ⟨by simp [World.setCell]; omega, fun b hb hp => hkeep b hb (fun h => by have := hol b h.symm; omega) om_⟩ (fun b hb hp => ⟨by omega, by omega, by omega, hnew b hb (fun h => by have := hol b h.symm; omega)⟩) x _ hlv) l cs ?_
   exact zc0_ ⟨by simp [World.setCell]; omega, fun b hb hp => (hkeep b om_ hp.2.2.2 hp.2.2.1).trans (hgl1.block b hb si_)⟩ (fun b hb hp => ⟨hp.1, hp.2.1, hp.2.2.1, hnew b om_ hp.2.2.2⟩) l cs hrv
 · rw [hdr]; exact hct
theorem zie_ {RS LB : Nat} {k : Int} {w wr W : World} {j : Nat} {l : List LT} {cs : List Value} {a : Option Addr} {nn cap : Nat} (hk : 0 ≤ k ∧ k ≤ 255) (hj : j ≤ 9) (hll : l.length = j) (hRSL : RS < LB) (hwR : w.heap.size ≤ RS) (hsz : w.heap.size ≤ wr.heap.size)
  (hown : wr.ownsRow (LB + 1) 25 4 (.slice a nn cap) j cs) (hrv : RowV (fun b => w.heap.size ≤ b ∧ b ≠ RS ∧ b ≠ LB ∧ some b ≠ (Value.slice a nn cap).ownBlock) wr l cs) (hW : wr.heap.size ≤ W.heap.size) (hW2 : ∀ b, b ≠ RS → W.heap[b]? = wr.heap[b]?) :
  y2_ (fun b => w.heap.size ≤ b) W (.mk k [] 0 l) (.agg #[.int .u8 k, .string (bs []), .int .i64 0, .slice a nn cap]) := by
 obtain rfl := zbm_ hown
 unfold y2_
 refine ⟨hk, by omega, by simp, by omega, _, rfl, ?_⟩
 by_cases hz : nn = 0
 · subst hz
   exact .inl ⟨a, cap, rfl, List.eq_nil_of_length_eq_zero hll⟩
 · obtain ⟨g, c2, e, h1, h2, h3⟩ := zc1_ hown om_ hll hrv
   injection e with e1 e2 e3
   subst e1 e3
   refine .inr ⟨g, 0, cap, by rw [hll], by omega, by omega, ?_⟩
   exact zbE_ (p := fun b => b ≠ RS ∧ w.heap.size ≤ b) ⟨hW, fun b hb hp => hW2 b hp.1⟩ (fun b _ h => h.2) l g 0 h2 ⟨by omega, by omega⟩ (zbs_ (fun b _ h => ⟨h.2.1, h.1⟩) l g 0 h3)
theorem rr5Y (s : List UInt8) (a : Nat) (rm : Nat) (hrm : rm ≤ 64) (hlt : a < s.length) (f : Nat) (ih : RRIH f) (hf : rm < f) (m : Nat) (r : List UInt8) (tot : Option (List LT × List UInt8 × Nat)) (hc : s[a] = 38) (hn : v7_ 58 (s.drop (a + 1)) = some (m, r)) (hm8 : m ≤ 8) (htot : v8_ (w2_ v1_ q2_ f) m rm r = tot) (hs : s.length ≤ 100000000000) (w : World) :
  Calls Tryz.prog 58 #[.string (bs s), .int .i64 a, .int .i64 ((rm : Int) + 1)] w (RRPost s.length w (zcL_ 5 tot)) := by
 have HV := Lib.hid (zdk_ 58 de_ om_ hn)
 have hdr : s.drop (s.length - r.length) = r := by
  have h := (zaF_ hn).1
  exact (zdl_ (p := Lib.decDigits m ++ [58]) (by rw [h]; simp)).1
 have HDR := Lib.hid hdr
 have HT := Lib.hid htot
 have IH := Lib.hid ih
 obtain ⟨i0, hi0, hi1, hi2, hi3⟩ := info_parts Tryz.infoLock
 clear hn hdr htot ih
 have i1 : (a : Int) < s.length := by omega
 have hb0 : ((rm : Int) + 1 == 0) = false := by simp; omega
 have b115 : (((s[a].toNat : Nat) : Int) == 115) = false := by rw [hc]; rfl
 have b112 : (((s[a].toNat : Nat) : Int) == 112) = false := by rw [hc]; rfl
 have b97 : (((s[a].toNat : Nat) : Int) == 97) = false := by rw [hc]; rfl
 have b111 : (((s[a].toNat : Nat) : Int) == 111) = false := by rw [hc]; rfl
 have b124 : (((s[a].toNat : Nat) : Int) == 124) = false := by rw [hc]; rfl
 have b38 : (((s[a].toNat : Nat) : Int) != 38) = false := by rw [hc]; rfl
 clear hc
 have b8 : decide (8 < (m : Int)) = false := by simp; omega
 go_enter Tryz.func58, Tryz.ntmps58
 go_wp2_with fail
 refine (zb8_ 58 s _ _ om_ om_ rfl om_ _).mono ?_
 rintro e w1 ⟨rfl, rfl⟩
 rw [show ((a : Int) + 1).toNat = a + 1 by omega, HV.out]
 go_wp2
 have hZ_ := z3_ (w.alloc zl_) (.cells #[.int .u8 5, .string (bs []), .int .i64 0, .slice none 0 0] 25)
 rw [show (w.alloc zl_).heap.size = w.heap.size + 1 by simp] at hZ_
 have HLB := Lib.hid (hZ_)
 clear hZ_
 have HRS : Hid (((w.alloc zl_).alloc (.cells #[.int .u8 5, .string (bs []), .int .i64 0, .slice none 0 0] 25)).heap[w.heap.size]? = some (.cells #[.int .u8 0, .string (bs []), .int .i64 0, .slice none 0 0] 25 (0, 0))) := z8_ (z3_ w zl_) _
 have HGL : Hid (GL [] w ((w.alloc zl_).alloc (.cells #[.int .u8 5, .string (bs []), .int .i64 0, .slice none 0 0] 25))) := Lib.hid gl_
 have HSTL : Hid (w.heap.size + 1 < ((w.alloc zl_).alloc (.cells #[.int .u8 5, .string (bs []), .int .i64 0, .slice none 0 0] 25)).heap.size) := Lib.hid (z0_ HLB.out)
 generalize ((w.alloc zl_).alloc (.cells #[.int .u8 5, .string (bs []), .int .i64 0, .slice none 0 0] 25)) = w1 at *
 go_loopw [2, 17, 18] (fun rv ev iv wr => RSt s (w.heap.size + 1) 5 w f m tot rm rv ev iv wr) (fun _ _ iv _ => m - (intOf iv).toNat)
 case atStart =>
  refine ⟨0, rm, s.length - r.length, [], [], none, 0, 0, by omega, rfl, by first | rfl | (simp; done), by first | rfl | (simp; done), rfl, Nat.le_refl _, by omega, HSTL.out, HGL, HRS, HLB, Lib.hid ⟨rfl, .inl ⟨rfl, rfl⟩⟩, Lib.hid rfl, Lib.hid ?_⟩
  rw [← HT.out, Nat.sub_zero, HDR.out]
  cases v8_ (w2_ v1_ q2_ f) m rm r with
  | none => rfl
  | some z => simp
 case round =>
  obtain ⟨j, rj, aj, l, cs, ao, nn, cap, hj, rfl, rfl, rfl, hll, hrj, haj, hLs, hgr, HRSr, HLBr, hown, hrv, hct⟩ := hrel
  have hsz := hgr.out.size
  have fL := z2_ HLBr.out
  have fL2 := z5_ HLBr.out
  have fQ := z2_ HRSr.out
  have fQ2 := z5_ HRSr.out
  have lQ := z0_ HRSr.out
  by_cases hltj : j < m
  · have i2 : (j : Int) < m := by omega
    have hcall := IH.out s aj rj wr om_ om_ haj om_
    cases ho : w2_ v1_ q2_ f rj (s.drop aj) with
    | none =>
      have HTN : Hid (tot = none) := zib_ om_ hct.out ho
      rw [ho] at hcall
      have HC := Lib.hid hcall
      clear hcall ho hct
      go_wp2_with fail
      refine (HC.out).mono ?_
      rintro e w2 ⟨hgl2, kk, kn, kr, kt, ka, km, kc, rfl⟩
      have HQ2 := Lib.hid (y7_ HRSr.out hgl2 si_)
      have fq1 := z2_ HQ2.out
      have fq2 := z5_ HQ2.out
      have fq3 := z0_ HQ2.out
      have hg2 : GL [] w w2 := x1_ hgl2 hgr.out si_
      go_wp2
      refine bodyPost_ret (v := .tuple #[.agg #[.int .u8 0, .string (bs []), .int .i64 0, .slice none 0 0], .int .i64 (-1), .int .i64 0]) (by simp [results, Tryz.results58, go_sem, zap_, fq1, fq2, fq3]) rfl ?_
      show RRPost s.length w (zcL_ 5 tot) _ _
      rw [HTN.out]
      exact zbB_ gl_
    | some z =>
      obtain ⟨x, s', r'⟩ := z
      obtain ⟨⟨pp, hpp⟩, hrr⟩ := zer_ _ _ _ _ _ _ ho
      have HDR2 := Lib.hid (zdl_ hpp).1
      have hs'l := (zdl_ hpp).2
      have HCT := Lib.hid (zic_ om_ hct.out ho)
      rw [ho] at hcall
      have HC := Lib.hid hcall
      clear hcall ho hct hpp
      go_wp2_with fail
      refine (HC.out).mono ?_
      rintro e w2 ⟨hgl2, v, rfl, hlv⟩
      obtain ⟨xk, xt, xn, xkids⟩ := x
      obtain ⟨xa, xc, rfl, _⟩ := y3_ hlv
      have HLV := Lib.hid hlv
      have HL2 := Lib.hid (y7_ HLBr.out hgl2 si_)
      have HQ2 := Lib.hid (y7_ HRSr.out hgl2 si_)
      have hown2 := zdr_ hown.out hgl2 si_
      have fl1 := z2_ HL2.out
      have fl2 := z5_ HL2.out
      have fl3 := z0_ HL2.out
      have hsz2 := hgl2.size
      have hog := zfL_ hown.out
      have hob := zal_ hown.out
      obtain ⟨OB, hOB⟩ : ∃ OB, (Value.slice ao nn cap).ownBlock = OB := ⟨_, rfl⟩
      rw [hOB] at hog hob
      have HOB := Lib.hid hOB
      clear hlv hOB fL fL2 fQ fQ2
      go_wp2_with (at_builtin; go_must (refine wpList_append_own_at _ rfl _ _ 23 rfl (w.heap.size + 1 + 1) 25 i0 (.agg #[.int .u8 0, .string ByteArray.empty, .int .i64 0, .slice none 0 0]) 4 56 Tryz.underlying23 hi0 hi1 hi2 hi3 rfl de_ _ j cs rfl (zar_ (zar_ hown2 _) _) ⟨w2.heap.size + 1, 0, none⟩ 1 1 [.int .u8 xk, .string (bs xt), .int .i64 xn, .slice xa xkids.length xc] rfl rfl ?c1 ?c2 ?c3 ?c4 ?c5 ?_; (case c1 => (intro i u hi; (match i, hi with | 0, hi => (simp at hi; subst hi; simp [Addr.add]) | 1, hi => (simp at hi; subst hi; simp [Addr.add]) | 2, hi => (simp at hi; subst hi; simp [Addr.add]) | 3, hi => (simp at hi; subst hi; simp [Addr.add]) | i + 4, hi => (simp at hi)))); (case c2 => (intro u hu; simp at hu; rcases hu with rfl | rfl | rfl | rfl <;> rfl)); (case c3 => (unfold maxLen; omega)); (case c4 => omega); (case c5 => (simp; omega)); (intro v' w4 hown4 hgr4 _ hat4); (obtain ⟨ad4, n4, cp4, hv4⟩ := zai_ hown4); (subst hv4); (have hneL : some (w.heap.size + 1) ≠ OB := fun h => by have := hob (w.heap.size + 1) h.symm; omega); (have HL4 := Lib.hid (j1_ (z8_ (z8_ HL2.out _) _) hgr4 (by show some (w.heap.size + 1) ≠ (Value.slice ao nn cap).ownBlock; rw [HOB.out]; exact hneL))); (have g4 := z2_ HL4.out); (have g5 := z5_ HL4.out)))
      go_wp2
      go_roundw
      case rel => exact zid_ hltj hll hrj hrr hLs om_ hgr.out hgl2 HQ2.out HL4.out hown.out hrv.out HLV.out hown4 hgr4 hat4 HDR2.out HCT.out
      case measure => simp [intOf]; omega
  · obtain rfl : j = m := by omega
    have HTY : Hid (tot = some (l, s.drop aj, rj)) := by
     show tot = _
     have := hct.out
     rw [Nat.sub_self] at this
     rw [← this]
     simp [v8_]
    clear hct
    have haj2 : s.length - (s.drop aj).length = aj := by rw [List.length_drop]; omega
    go_wp2
    refine bodyPost_ret (v := .tuple #[.agg #[.int .u8 5, .string (bs []), .int .i64 0, .slice ao nn cap], .int .i64 aj, .int .i64 rj]) (by simp [results, Tryz.results58, go_sem, zap_, fQ, fQ2, lQ, fL, fL2]) rfl ?_
    show RRPost s.length w (zcL_ 5 tot) _ _
    rw [HTY.out]
    refine ⟨by have := hgr.out; exact gl_, _, by rw [haj2], zie_ (RS := w.heap.size) om_ om_ hll om_ (Nat.le_refl _) hsz hown.out hrv.out (by simp [World.setCell]) (fun b hb => ?_)⟩
    repeat (rw [Below.heap_setCell _ _ _ _ (by simpa using hb)])
theorem rr6Y (s : List UInt8) (a : Nat) (rm : Nat) (hrm : rm ≤ 64) (hlt : a < s.length) (f : Nat) (ih : RRIH f) (hf : rm < f) (m : Nat) (r : List UInt8) (tot : Option (List LT × List UInt8 × Nat)) (hc : s[a] = 124) (hn : v7_ 58 (s.drop (a + 1)) = some (m, r)) (hm8 : m ≤ 8) (htot : v8_ (w2_ v1_ q2_ f) m rm r = tot) (hs : s.length ≤ 100000000000) (w : World) :
  Calls Tryz.prog 58 #[.string (bs s), .int .i64 a, .int .i64 ((rm : Int) + 1)] w (RRPost s.length w (zcL_ 6 tot)) := by
 have HV := Lib.hid (zdk_ 58 de_ om_ hn)
 have hdr : s.drop (s.length - r.length) = r := by
  have h := (zaF_ hn).1
  exact (zdl_ (p := Lib.decDigits m ++ [58]) (by rw [h]; simp)).1
 have HDR := Lib.hid hdr
 have HT := Lib.hid htot
 have IH := Lib.hid ih
 obtain ⟨i0, hi0, hi1, hi2, hi3⟩ := info_parts Tryz.infoLock
 clear hn hdr htot ih
 have i1 : (a : Int) < s.length := by omega
 have hb0 : ((rm : Int) + 1 == 0) = false := by simp; omega
 have b115 : (((s[a].toNat : Nat) : Int) == 115) = false := by rw [hc]; rfl
 have b112 : (((s[a].toNat : Nat) : Int) == 112) = false := by rw [hc]; rfl
 have b97 : (((s[a].toNat : Nat) : Int) == 97) = false := by rw [hc]; rfl
 have b111 : (((s[a].toNat : Nat) : Int) == 111) = false := by rw [hc]; rfl
 have b124 : (((s[a].toNat : Nat) : Int) == 124) = true := by rw [hc]; rfl
 clear hc
 have b8 : decide (8 < (m : Int)) = false := by simp; omega
 go_enter Tryz.func58, Tryz.ntmps58
 go_wp2_with fail
 refine (zb8_ 58 s _ _ om_ om_ rfl om_ _).mono ?_
 rintro e w1 ⟨rfl, rfl⟩
 rw [show ((a : Int) + 1).toNat = a + 1 by omega, HV.out]
 go_wp2
 have hZ_ := z3_ (w.alloc zl_) (.cells #[.int .u8 6, .string (bs []), .int .i64 0, .slice none 0 0] 25)
 rw [show (w.alloc zl_).heap.size = w.heap.size + 1 by simp] at hZ_
 have HLB := Lib.hid (hZ_)
 clear hZ_
 have HRS : Hid (((w.alloc zl_).alloc (.cells #[.int .u8 6, .string (bs []), .int .i64 0, .slice none 0 0] 25)).heap[w.heap.size]? = some (.cells #[.int .u8 0, .string (bs []), .int .i64 0, .slice none 0 0] 25 (0, 0))) := z8_ (z3_ w zl_) _
 have HGL : Hid (GL [] w ((w.alloc zl_).alloc (.cells #[.int .u8 6, .string (bs []), .int .i64 0, .slice none 0 0] 25))) := Lib.hid gl_
 have HSTL : Hid (w.heap.size + 1 < ((w.alloc zl_).alloc (.cells #[.int .u8 6, .string (bs []), .int .i64 0, .slice none 0 0] 25)).heap.size) := Lib.hid (z0_ HLB.out)
 generalize ((w.alloc zl_).alloc (.cells #[.int .u8 6, .string (bs []), .int .i64 0, .slice none 0 0] 25)) = w1 at *
 go_loopw [2, 17, 18] (fun rv ev iv wr => RSt s (w.heap.size + 1) 6 w f m tot rm rv ev iv wr) (fun _ _ iv _ => m - (intOf iv).toNat)
 case atStart =>
  refine ⟨0, rm, s.length - r.length, [], [], none, 0, 0, by omega, rfl, by first | rfl | (simp; done), by first | rfl | (simp; done), rfl, Nat.le_refl _, by omega, HSTL.out, HGL, HRS, HLB, Lib.hid ⟨rfl, .inl ⟨rfl, rfl⟩⟩, Lib.hid rfl, Lib.hid ?_⟩
  rw [← HT.out, Nat.sub_zero, HDR.out]
  cases v8_ (w2_ v1_ q2_ f) m rm r with
  | none => rfl
  | some z => simp
 case round =>
  obtain ⟨j, rj, aj, l, cs, ao, nn, cap, hj, rfl, rfl, rfl, hll, hrj, haj, hLs, hgr, HRSr, HLBr, hown, hrv, hct⟩ := hrel
  have hsz := hgr.out.size
  have fL := z2_ HLBr.out
  have fL2 := z5_ HLBr.out
  have fQ := z2_ HRSr.out
  have fQ2 := z5_ HRSr.out
  have lQ := z0_ HRSr.out
  by_cases hltj : j < m
  · have i2 : (j : Int) < m := by omega
    have hcall := IH.out s aj rj wr om_ om_ haj om_
    cases ho : w2_ v1_ q2_ f rj (s.drop aj) with
    | none =>
      have HTN : Hid (tot = none) := zib_ om_ hct.out ho
      rw [ho] at hcall
      have HC := Lib.hid hcall
      clear hcall ho hct
      go_wp2_with fail
      refine (HC.out).mono ?_
      rintro e w2 ⟨hgl2, kk, kn, kr, kt, ka, km, kc, rfl⟩
      have HQ2 := Lib.hid (y7_ HRSr.out hgl2 si_)
      have fq1 := z2_ HQ2.out
      have fq2 := z5_ HQ2.out
      have fq3 := z0_ HQ2.out
      have hg2 : GL [] w w2 := x1_ hgl2 hgr.out si_
      go_wp2
      refine bodyPost_ret (v := .tuple #[.agg #[.int .u8 0, .string (bs []), .int .i64 0, .slice none 0 0], .int .i64 (-1), .int .i64 0]) (by simp [results, Tryz.results58, go_sem, zap_, fq1, fq2, fq3]) rfl ?_
      show RRPost s.length w (zcL_ 6 tot) _ _
      rw [HTN.out]
      exact zbB_ gl_
    | some z =>
      obtain ⟨x, s', r'⟩ := z
      obtain ⟨⟨pp, hpp⟩, hrr⟩ := zer_ _ _ _ _ _ _ ho
      have HDR2 := Lib.hid (zdl_ hpp).1
      have hs'l := (zdl_ hpp).2
      have HCT := Lib.hid (zic_ om_ hct.out ho)
      rw [ho] at hcall
      have HC := Lib.hid hcall
      clear hcall ho hct hpp
      go_wp2_with fail
      refine (HC.out).mono ?_
      rintro e w2 ⟨hgl2, v, rfl, hlv⟩
      obtain ⟨xk, xt, xn, xkids⟩ := x
      obtain ⟨xa, xc, rfl, _⟩ := y3_ hlv
      have HLV := Lib.hid hlv
      have HL2 := Lib.hid (y7_ HLBr.out hgl2 si_)
      have HQ2 := Lib.hid (y7_ HRSr.out hgl2 si_)
      have hown2 := zdr_ hown.out hgl2 si_
      have fl1 := z2_ HL2.out
      have fl2 := z5_ HL2.out
      have fl3 := z0_ HL2.out
      have hsz2 := hgl2.size
      have hog := zfL_ hown.out
      have hob := zal_ hown.out
      obtain ⟨OB, hOB⟩ : ∃ OB, (Value.slice ao nn cap).ownBlock = OB := ⟨_, rfl⟩
      rw [hOB] at hog hob
      have HOB := Lib.hid hOB
      clear hlv hOB fL fL2 fQ fQ2
      go_wp2_with (at_builtin; go_must (refine wpList_append_own_at _ rfl _ _ 23 rfl (w.heap.size + 1 + 1) 25 i0 (.agg #[.int .u8 0, .string ByteArray.empty, .int .i64 0, .slice none 0 0]) 4 56 Tryz.underlying23 hi0 hi1 hi2 hi3 rfl de_ _ j cs rfl (zar_ (zar_ hown2 _) _) ⟨w2.heap.size + 1, 0, none⟩ 1 1 [.int .u8 xk, .string (bs xt), .int .i64 xn, .slice xa xkids.length xc] rfl rfl ?c1 ?c2 ?c3 ?c4 ?c5 ?_; (case c1 => (intro i u hi; (match i, hi with | 0, hi => (simp at hi; subst hi; simp [Addr.add]) | 1, hi => (simp at hi; subst hi; simp [Addr.add]) | 2, hi => (simp at hi; subst hi; simp [Addr.add]) | 3, hi => (simp at hi; subst hi; simp [Addr.add]) | i + 4, hi => (simp at hi)))); (case c2 => (intro u hu; simp at hu; rcases hu with rfl | rfl | rfl | rfl <;> rfl)); (case c3 => (unfold maxLen; omega)); (case c4 => omega); (case c5 => (simp; omega)); (intro v' w4 hown4 hgr4 _ hat4); (obtain ⟨ad4, n4, cp4, hv4⟩ := zai_ hown4); (subst hv4); (have hneL : some (w.heap.size + 1) ≠ OB := fun h => by have := hob (w.heap.size + 1) h.symm; omega); (have HL4 := Lib.hid (j1_ (z8_ (z8_ HL2.out _) _) hgr4 (by show some (w.heap.size + 1) ≠ (Value.slice ao nn cap).ownBlock; rw [HOB.out]; exact hneL))); (have g4 := z2_ HL4.out); (have g5 := z5_ HL4.out)))
      go_wp2
      go_roundw
      case rel => exact zid_ hltj hll hrj hrr hLs om_ hgr.out hgl2 HQ2.out HL4.out hown.out hrv.out HLV.out hown4 hgr4 hat4 HDR2.out HCT.out
      case measure => simp [intOf]; omega
  · obtain rfl : j = m := by omega
    have HTY : Hid (tot = some (l, s.drop aj, rj)) := by
     show tot = _
     have := hct.out
     rw [Nat.sub_self] at this
     rw [← this]
     simp [v8_]
    clear hct
    have haj2 : s.length - (s.drop aj).length = aj := by rw [List.length_drop]; omega
    go_wp2
    refine bodyPost_ret (v := .tuple #[.agg #[.int .u8 6, .string (bs []), .int .i64 0, .slice ao nn cap], .int .i64 aj, .int .i64 rj]) (by simp [results, Tryz.results58, go_sem, zap_, fQ, fQ2, lQ, fL, fL2]) rfl ?_
    show RRPost s.length w (zcL_ 6 tot) _ _
    rw [HTY.out]
    refine ⟨by have := hgr.out; exact gl_, _, by rw [haj2], zie_ (RS := w.heap.size) om_ om_ hll om_ (Nat.le_refl _) hsz hown.out hrv.out (by simp [World.setCell]) (fun b hb => ?_)⟩
    repeat (rw [Below.heap_setCell _ _ _ _ (by simpa using hb)])
theorem rrN : ∀ f, RRIH f
 | 0 => fun s a room w h _ _ _ => by omega
 | f + 1 => fun s a room w hf h64 ha hs => by
   by_cases hlt : a < s.length
   · rw [List.drop_eq_getElem_cons hlt]
     match room, hf, h64 with
     | 0, _, _ =>
       have h0 : w2_ v1_ q2_ (f + 1) 0 (s[a] :: s.drop (a + 1)) = none := by rw [w2_]
       rw [h0, show ((0 : Nat) : Int) = 0 from rfl]
       exact znJ_ s a hlt hs w
     | rm + 1, hf, h64 =>
       rw [w2_]
       have hrm : rm ≤ 64 := by omega
       rw [show (((rm + 1 : Nat)) : Int) = (rm : Int) + 1 by omega]
       by_cases h1 : s[a] = 115
       · rw [if_pos (.inl h1), h1]
         cases hc : v1_ (s.drop (a + 1)) with
         | none => exact rr1N s a rm hrm hlt h1 hc hs w
         | some z => exact rr1Y s a rm hrm hlt z.1 z.2 h1 hc hs w
       by_cases h2 : s[a] = 112
       · rw [if_pos (.inr h2), h2]
         cases hc : v1_ (s.drop (a + 1)) with
         | none => exact rr2N s a rm hrm hlt h2 hc hs w
         | some z => exact rr2Y s a rm hrm hlt z.1 z.2 h2 hc hs w
       rw [if_neg (by simp [h1, h2])]
       by_cases h3 : s[a] = 97
       · rw [if_pos (.inl h3), h3]
         cases hc : v7_ 59 (s.drop (a + 1)) with
         | none => exact rr3N s a rm hrm hlt h3 hc hs w
         | some z => exact rr3Y s a rm hrm hlt z.1 z.2 h3 hc hs w
       by_cases h4 : s[a] = 111
       · rw [if_pos (.inr h4), h4]
         cases hc : v7_ 59 (s.drop (a + 1)) with
         | none => exact rr4N s a rm hrm hlt h4 hc hs w
         | some z => exact rr4Y s a rm hrm hlt z.1 z.2 h4 hc hs w
       rw [if_neg (by simp [h3, h4])]
       have hne : ∀ d : UInt8, s[a] ≠ d → (((s[a].toNat : Nat) : Int) == (d.toNat : Nat)) = false := fun d hd => by
        have : s[a].toNat ≠ d.toNat := fun h => hd (UInt8.toNat_inj.1 h)
        simp; omega
       by_cases h5 : s[a] = 38
       · rw [if_pos (.inl h5), h5]
         cases hc : v7_ 58 (s.drop (a + 1)) with
         | none => exact rr5N s a rm hrm hlt h5 hc hs w
         | some z =>
           obtain ⟨n, s2⟩ := z
           simp only [q2_]
           by_cases h8 : n ≤ 8
           · rw [if_pos h8]
             have h := rr5Y s a rm hrm hlt f (rrN f) om_ n s2 _ h5 hc h8 rfl hs w
             refine h.mono fun e w' hp => ?_
             unfold zcL_ at hp
             simp only
             cases hq : v8_ (w2_ v1_ q2_ f) n rm s2 with
             | none => rw [hq] at hp; exact hp
             | some y => rw [hq] at hp; exact hp
           · rw [if_neg h8]
             exact rr5B s a rm hrm hlt n s2 h5 hc om_ hs w
       by_cases h6 : s[a] = 124
       · rw [if_pos (.inr h6), h6]
         cases hc : v7_ 58 (s.drop (a + 1)) with
         | none => exact rr6N s a rm hrm hlt h6 hc hs w
         | some z =>
           obtain ⟨n, s2⟩ := z
           simp only [q2_]
           by_cases h8 : n ≤ 8
           · rw [if_pos h8]
             have h := rr6Y s a rm hrm hlt f (rrN f) om_ n s2 _ h6 hc h8 rfl hs w
             refine h.mono fun e w' hp => ?_
             unfold zcL_ at hp
             simp only
             cases hq : v8_ (w2_ v1_ q2_ f) n rm s2 with
             | none => rw [hq] at hp; exact hp
             | some y => rw [hq] at hp; exact hp
           · rw [if_neg h8]
             exact rr6B s a rm hrm hlt n s2 h6 hc om_ hs w
       rw [if_neg (by simp [h5, h6])]
       refine znS_ s a rm hrm hlt (hne 115 h1) (hne 112 h2) (hne 97 h3) (hne 111 h4) (hne 124 h6) ?_ hs w
       have : s[a].toNat ≠ (38 : UInt8).toNat := fun h => h5 (UInt8.toNat_inj.1 h)
       simp at this ⊢
       omega
   · rw [List.drop_eq_nil_of_le om_]
     have : w2_ v1_ q2_ (f + 1) room [] = none := by cases room <;> rfl
     rw [this]
     exact znI_ s a room om_ hs w
def zdK_ (w : World) (o : Option LT) (e : Ending) (w' : World) : Prop := Below w.heap.size w w' ∧
 match o with
 | none => e = .returned (.tuple #[.agg #[.int .u8 0, .string (bs []), .int .i64 0, .slice none 0 0], .int .i64 110])
 | some x => ∃ v, e = .returned (.tuple #[v, .int .i64 0]) ∧ y2_ (fun b => w.heap.size ≤ b) w' x v
theorem zif_ (s : List UInt8) (hsl : s.length ≤ 100000000000) (w : World) :
  Calls Tryz.prog 42 #[.string (bs s)] w (zdK_ w (k8_ v1_ q2_ s)) := by
 have hcall := fun (W : World) => rrN 65 s 0 64 W om_ om_ om_ hsl
 rw [List.drop_zero] at hcall
 have hP : k8_ v1_ q2_ s = match w2_ v1_ q2_ 65 64 s with | some (x, [], _) => if w7_ x then some x else none | _ => none := rfl
 cases ho : w2_ v1_ q2_ 65 64 s with
 | none =>
   have HP : Hid (k8_ v1_ q2_ s = none) := by show _ = none; rw [hP, ho]
   rw [ho] at hcall
   have HC := Lib.hid hcall
   have hb : ((-1 : Int) != s.length) = true := sx_
   clear hP ho hcall
   go_enter Tryz.func42, Tryz.ntmps42
   go_wp2_with fail
   refine (HC.out _).mono ?_
   rintro e w1 ⟨hg1, kk, kn, kr, kt, ka, km, kc, rfl⟩
   have HB1 := Lib.hid (y7_ (z3_ w zl_) hg1 si_)
   have f1 := z2_ HB1.out
   have f2 := z5_ HB1.out
   have f3 := z0_ HB1.out
   have hg : GL [] w w1 := x1_ hg1 (z6_ (z1_ _ _) _) si_
   go_wp2
   refine bodyPost_ret (v := .tuple #[.agg #[.int .u8 0, .string (bs []), .int .i64 0, .slice none 0 0], .int .i64 110]) (by simp [results, Tryz.results42, go_sem, zap_, f1, f2, f3]) rfl ?_
   show zdK_ w (k8_ v1_ q2_ s) _ _
   rw [HP.out]
   exact ⟨x0_ gl_, rfl⟩
 | some z =>
   obtain ⟨x, s', r'⟩ := z
   obtain ⟨⟨pp, hpp⟩, hrr⟩ := zer_ _ _ _ _ _ _ ho
   have hs'l : s'.length ≤ s.length := by
    have := congrArg List.length hpp
    rw [List.length_append] at this
    omega
   rw [ho] at hcall
   by_cases hz : s' = []
   · subst hz
     cases hx : w7_ x with
     | false =>
       have HP : Hid (k8_ v1_ q2_ s = none) := by show _ = none; rw [hP, ho]; simp [hx]
       have HX := Lib.hid hx
       have HC := Lib.hid hcall
       clear hP ho hcall hx hpp
       go_enter Tryz.func42, Tryz.ntmps42
       go_wp2_with fail
       refine (HC.out _).mono ?_
       rintro e w1 ⟨hg1, v, rfl, hlv⟩
       have hlr := fun (W : World) (hg : GL [] w1 W) => zdg_ x _ _ W (z7_ hg _ _ hlv)
       rw [HX.out] at hlr
       obtain ⟨k, t, n, ks⟩ := x
       obtain ⟨ad, c, rfl, _⟩ := y3_ hlv
       have HR := Lib.hid hlr
       have HB1 := Lib.hid (y7_ (z3_ w zl_) hg1 si_)
       have f1 := z2_ HB1.out
       have f2 := z5_ HB1.out
       have f3 := z0_ HB1.out
       have hg : GL [] w w1 := x1_ hg1 (z6_ (z1_ _ _) _) si_
       clear hlr hlv
       go_wp2_with fail
       refine (HR.out _ gl_).mono ?_
       rintro e w2 ⟨rfl, hb2⟩
       have HB2 := Lib.hid (z9_ (z8_ HB1.out _) hb2 so_)
       have g1 := z2_ HB2.out
       have g2 := z5_ HB2.out
       have g3 := z0_ HB2.out
       have hg2 := z4_ hb2 (z6_ hg _)
       clear f1 f2 f3
       go_wp2
       refine bodyPost_ret (v := .tuple #[.agg #[.int .u8 0, .string (bs []), .int .i64 0, .slice none 0 0], .int .i64 110]) (by simp [results, Tryz.results42, go_sem, zap_, g1, g2, g3]) rfl ?_
       show zdK_ w (k8_ v1_ q2_ s) _ _
       rw [HP.out]
       exact ⟨x0_ gl_, rfl⟩
     | true =>
       have HP : Hid (k8_ v1_ q2_ s = some x) := by show _ = some x; rw [hP, ho]; simp [hx]
       have HX := Lib.hid hx
       have HC := Lib.hid hcall
       clear hP ho hcall hx hpp
       go_enter Tryz.func42, Tryz.ntmps42
       go_wp2_with fail
       refine (HC.out _).mono ?_
       rintro e w1 ⟨hg1, v, rfl, hlv⟩
       have hlr := fun (W : World) (hg : GL [] w1 W) => zdg_ x _ _ W (z7_ hg _ _ hlv)
       rw [HX.out] at hlr
       obtain ⟨k, t, n, ks⟩ := x
       obtain ⟨ad, c, rfl, _⟩ := y3_ hlv
       have HR := Lib.hid hlr
       have HLV := Lib.hid hlv
       have HB1 := Lib.hid (y7_ (z3_ w zl_) hg1 si_)
       have f1 := z2_ HB1.out
       have f2 := z5_ HB1.out
       have f3 := z0_ HB1.out
       have hg : GL [] w w1 := x1_ hg1 (z6_ (z1_ _ _) _) si_
       clear hlr hlv
       go_wp2_with fail
       refine (HR.out _ gl_).mono ?_
       rintro e w2 ⟨rfl, hb2⟩
       have HB2 := Lib.hid (z9_ (z8_ HB1.out _) hb2 so_)
       have g1 := z2_ HB2.out
       have g2 := z5_ HB2.out
       have g3 := z0_ HB2.out
       have HA2 := Lib.hid (z9_ (z3_ w1 (.cells #[.int .u8 k, .string (bs t), .int .i64 n, .slice ad ks.length c] 25)) hb2 si_)
       have a1 := z2_ HA2.out
       have a2 := z5_ HA2.out
       have hg2 := z4_ hb2 (z6_ hg _)
       have hs1 := hg1.size
       have hs2 := hb2.size
       clear f1 f2 f3
       go_wp2
       refine bodyPost_ret (v := .tuple #[.agg #[.int .u8 k, .string (bs t), .int .i64 n, .slice ad ks.length c], .int .i64 0]) (by simp [results, Tryz.results42, go_sem, zap_, g1, g2, g3, a1, a2]) rfl ?_
       show zdK_ w (k8_ v1_ q2_ s) _ _
       rw [HP.out]
       refine ⟨x0_ gl_, _, rfl, ?_⟩
       refine za5_ (p := fun b => w.heap.size + 1 ≤ b) (w := w1) ⟨by simp [World.setCell]; simp at hs2; omega, fun b hb hp => ?_⟩ (fun b _ h => by omega) _ _ (q9_ (fun b _ h => by simpa using h) _ _ HLV.out)
       repeat (rw [Below.heap_setCell _ _ _ _ so_])
       rw [hb2.block b so_, Below.heap_alloc _ _ _ hb]
   · have HP : Hid (k8_ v1_ q2_ s = none) := by
      show _ = none
      rw [hP, ho]
      cases s' with
      | nil => exact absurd rfl hz
      | cons a b => rfl
     have hl : 1 ≤ s'.length := by
      cases s' with
      | nil => exact absurd rfl hz
      | cons a b => simp
     have hb : (((s.length - s'.length : Nat) : Int) != s.length) = true := by simp; omega
     have HC := Lib.hid hcall
     clear hP ho hcall hpp hz
     go_enter Tryz.func42, Tryz.ntmps42
     go_wp2_with fail
     refine (HC.out _).mono ?_
     rintro e w1 ⟨hg1, v, rfl, hlv⟩
     obtain ⟨k, t, n, ks⟩ := x
     obtain ⟨ad, c, rfl, _⟩ := y3_ hlv
     have HB1 := Lib.hid (y7_ (z3_ w zl_) hg1 si_)
     have f1 := z2_ HB1.out
     have f2 := z5_ HB1.out
     have f3 := z0_ HB1.out
     have hg : GL [] w w1 := x1_ hg1 (z6_ (z1_ _ _) _) si_
     clear hlv
     go_wp2
     refine bodyPost_ret (v := .tuple #[.agg #[.int .u8 0, .string (bs []), .int .i64 0, .slice none 0 0], .int .i64 110]) (by simp [results, Tryz.results42, go_sem, zap_, f1, f2, f3]) rfl ?_
     show zdK_ w (k8_ v1_ q2_ s) _ _
     rw [HP.out]
     exact ⟨x0_ gl_, rfl⟩
theorem zny_ {α : Type} (o : Option α) : o = none ∨ ∃ y, o = some y := by
 cases o with
 | none => exact .inl rfl
 | some y => exact .inr ⟨y, rfl⟩
theorem zh9_ (p : Nat → Prop) (w : World) : y2_ p w (.mk 0 [] 0 []) (.agg #[.int .u8 0, .string (bs []), .int .i64 0, .slice none 0 0]) := by
 unfold y2_
 exact ⟨by omega, by omega, by simp, by simp, _, rfl, .inl ⟨none, 0, rfl, rfl⟩⟩
theorem zia_ (s : List UInt8) (hsl : s.length ≤ 9000000000000000000) (w : World) (hG : GOk w) :
  Calls Tryz.prog 17 #[.string (bs s)] w fun e w' => e = .returned (.bool true) ∧ Below w.heap.size w w' := by
 have HG0 := Lib.hid hG
 clear hG
 have hg0 : GL [] w w := z1_ _ _
 by_cases h3 : s.length ≤ 3000
 · skip
   have b3 : decide (3000 < (s.length : Int)) = false := by simp; omega
   rcases zny_ (k8_ v4_ q6_ s) with hq | ⟨y, hq⟩
   · skip
     have HQ := Lib.hid hq
     have HQ2 : Hid (k8_ v1_ q2_ s = none) := by show _ = none; rw [zha_]; exact hq
     clear hq
     go_enter Tryz.func17, Tryz.ntmps17
     go_wp2_with fail
     refine (zbg_ s om_ _ HG0.out).mono ?_
     intro e w1 hp
     rw [HQ.out] at hp
     obtain ⟨hb1, rfl⟩ := hp
     have HG1 := Lib.hid (y6_ HG0.out hb1)
     have hg1 := z4_ hb1 hg0
     have hs1 := hg1.size
     go_wp2_with fail
     have HA2 := Lib.hid ((z3_ w1 zl_))
     have HG2 := Lib.hid (y5_ HG1.out zl_)
     have hg2 := z6_ hg1 zl_
     have geA : w.heap.size ≤ w1.heap.size := by have := hg1.size; omega
     have gnA : gN ≤ w1.heap.size := by have := HG1.out.size; omega
     generalize (w1.alloc zl_) = w2 at *
     generalize w1.heap.size = A at *
     have hs2 := hg2.size
     refine (zif_ s om_ _).mono ?_
     intro e w3 hp
     rw [HQ2.out] at hp
     obtain ⟨hb3, rfl⟩ := hp
     have HG3 := Lib.hid (y6_ HG2.out hb3)
     have hg3 := z4_ hb3 hg2
     have hs3 := hg3.size
     have HA3 := Lib.hid (z9_ HA2.out hb3 (z0_ HA2.out))
     have fa1 := z2_ HA3.out
     have fb1 := z5_ HA3.out
     have fl1 := z0_ HA3.out
     have flx1 : A < w3.heap.size + 1 := by omega
     go_wp2_with fail
     clear fa1 fb1 fl1
     clear flx1
     have HA4 := Lib.hid (z8_ HA3.out zl_)
     have ltAB : A < w3.heap.size := by have := z0_ HA3.out; omega
     have neAB : A ≠ w3.heap.size := by omega
     have neBA : w3.heap.size ≠ A := by omega
     have HB4 := Lib.hid ((z3_ w3 zl_))
     have HG4 := Lib.hid (y5_ HG3.out zl_)
     have hg4 := z6_ hg3 zl_
     have geB : w.heap.size ≤ w3.heap.size := by have := hg3.size; omega
     have gnB : gN ≤ w3.heap.size := by have := HG3.out.size; omega
     generalize (w3.alloc zl_) = w4 at *
     generalize w3.heap.size = B at *
     have hs4 := hg4.size
     refine (zah_ (.mk 0 [] 0 []) (.mk 0 [] 0 []) (fun _ => True) (fun _ => True) _ _ _ (zh9_ _ _) (zh9_ _ _)).mono ?_
     rintro e w5 ⟨rfl, hb5⟩
     rw [zbd_]
     have HA5 := Lib.hid (z9_ HA4.out hb5 (z0_ HA4.out))
     have HB5 := Lib.hid (z9_ HB4.out hb5 (z0_ HB4.out))
     have HG5 := Lib.hid (y6_ HG4.out hb5)
     have hg5 := z4_ hb5 hg4
     have hs5 := hg5.size
     go_wp2_with fail
     refine (zak_ _ HG5.out).mono ?_
     rintro e wz ⟨rfl, hbz⟩
     have HAz := Lib.hid (z9_ HA5.out hbz (z0_ HA5.out))
     have HBz := Lib.hid (z9_ HB5.out hbz (z0_ HB5.out))
     have HGz := Lib.hid (y6_ HG5.out hbz)
     have hgz := z4_ hbz hg5
     have hsz := hgz.size
     go_wp2_with fail
     go_ret
     exact ⟨rfl, x0_ hgz⟩
   · skip
     have HQ := Lib.hid hq
     have HQ2 : Hid (k8_ v1_ q2_ s = some y) := by show _ = some y; rw [zha_]; exact hq
     clear hq
     obtain ⟨k, t, n, ks⟩ := y
     go_enter Tryz.func17, Tryz.ntmps17
     go_wp2_with fail
     refine (zbg_ s om_ _ HG0.out).mono ?_
     intro e w1 hp
     rw [HQ.out] at hp
     obtain ⟨hb1, v1, rfl, hl1⟩ := hp
     obtain ⟨ad1, c1, rfl, _⟩ := y3_ hl1
     have HX1 := Lib.hid (q9_ (q := fun _ => True) (fun _ _ _ => trivial) _ _ hl1)
     clear hl1
     have HG1 := Lib.hid (y6_ HG0.out hb1)
     have hg1 := z4_ hb1 hg0
     have hs1 := hg1.size
     go_wp2_with fail
     have HX2 := Lib.hid (z7_ (z6_ (z1_ _ _) (.cells #[.int .u8 k, .string (bs t), .int .i64 n, .slice ad1 ks.length c1] 25)) _ _ HX1.out)
     have HA2 := Lib.hid ((z3_ w1 (.cells #[.int .u8 k, .string (bs t), .int .i64 n, .slice ad1 ks.length c1] 25)))
     have HG2 := Lib.hid (y5_ HG1.out (.cells #[.int .u8 k, .string (bs t), .int .i64 n, .slice ad1 ks.length c1] 25))
     have hg2 := z6_ hg1 (.cells #[.int .u8 k, .string (bs t), .int .i64 n, .slice ad1 ks.length c1] 25)
     have geA : w.heap.size ≤ w1.heap.size := by have := hg1.size; omega
     have gnA : gN ≤ w1.heap.size := by have := HG1.out.size; omega
     generalize (w1.alloc (.cells #[.int .u8 k, .string (bs t), .int .i64 n, .slice ad1 ks.length c1] 25)) = w2 at *
     generalize w1.heap.size = A at *
     have hs2 := hg2.size
     refine (zif_ s om_ _).mono ?_
     intro e w3 hp
     rw [HQ2.out] at hp
     obtain ⟨hb3, v3, rfl, hl3⟩ := hp
     obtain ⟨ad3, c3, rfl, _⟩ := y3_ hl3
     have HY3 := Lib.hid (q9_ (q := fun _ => True) (fun _ _ _ => trivial) _ _ hl3)
     clear hl3
     have HX3 := Lib.hid (z7_ (z4_ hb3 (z1_ _ _)) _ _ HX2.out)
     have HG3 := Lib.hid (y6_ HG2.out hb3)
     have hg3 := z4_ hb3 hg2
     have hs3 := hg3.size
     have HA3 := Lib.hid (z9_ HA2.out hb3 (z0_ HA2.out))
     have fa1 := z2_ HA3.out
     have fb1 := z5_ HA3.out
     have fl1 := z0_ HA3.out
     have flx1 : A < w3.heap.size + 1 := by omega
     go_wp2_with fail
     clear fa1 fb1 fl1
     clear flx1
     have HX4 := Lib.hid (z7_ (z6_ (z1_ _ _) (.cells #[.int .u8 k, .string (bs t), .int .i64 n, .slice ad3 ks.length c3] 25)) _ _ HX3.out)
     have HY4 := Lib.hid (z7_ (z6_ (z1_ _ _) (.cells #[.int .u8 k, .string (bs t), .int .i64 n, .slice ad3 ks.length c3] 25)) _ _ HY3.out)
     have HA4 := Lib.hid (z8_ HA3.out (.cells #[.int .u8 k, .string (bs t), .int .i64 n, .slice ad3 ks.length c3] 25))
     have ltAB : A < w3.heap.size := by have := z0_ HA3.out; omega
     have neAB : A ≠ w3.heap.size := by omega
     have neBA : w3.heap.size ≠ A := by omega
     have HB4 := Lib.hid ((z3_ w3 (.cells #[.int .u8 k, .string (bs t), .int .i64 n, .slice ad3 ks.length c3] 25)))
     have HG4 := Lib.hid (y5_ HG3.out (.cells #[.int .u8 k, .string (bs t), .int .i64 n, .slice ad3 ks.length c3] 25))
     have hg4 := z6_ hg3 (.cells #[.int .u8 k, .string (bs t), .int .i64 n, .slice ad3 ks.length c3] 25)
     have geB : w.heap.size ≤ w3.heap.size := by have := hg3.size; omega
     have gnB : gN ≤ w3.heap.size := by have := HG3.out.size; omega
     generalize (w3.alloc (.cells #[.int .u8 k, .string (bs t), .int .i64 n, .slice ad3 ks.length c3] 25)) = w4 at *
     generalize w3.heap.size = B at *
     have hs4 := hg4.size
     refine (zah_ (.mk k t n ks) (.mk k t n ks) _ _ _ _ _ HX4.out HY4.out).mono ?_
     rintro e w5 ⟨rfl, hb5⟩
     rw [zbd_]
     have HA5 := Lib.hid (z9_ HA4.out hb5 (z0_ HA4.out))
     have HB5 := Lib.hid (z9_ HB4.out hb5 (z0_ HB4.out))
     have HG5 := Lib.hid (y6_ HG4.out hb5)
     have hg5 := z4_ hb5 hg4
     have hs5 := hg5.size
     have HX5 := Lib.hid (z7_ (z4_ hb5 (z1_ _ _)) _ _ HX4.out)
     have HY5 := Lib.hid (z7_ (z4_ hb5 (z1_ _ _)) _ _ HY4.out)
     go_wp2_with fail
     refine (zak_ _ HG5.out).mono ?_
     rintro e wz ⟨rfl, hbz⟩
     have HAz := Lib.hid (z9_ HA5.out hbz (z0_ HA5.out))
     have HBz := Lib.hid (z9_ HB5.out hbz (z0_ HB5.out))
     have HGz := Lib.hid (y6_ HG5.out hbz)
     have hgz := z4_ hbz hg5
     have hsz := hgz.size
     have HXz := Lib.hid (z7_ (z4_ hbz (z1_ _ _)) _ _ HX5.out)
     have HYz := Lib.hid (z7_ (z4_ hbz (z1_ _ _)) _ _ HY5.out)
     go_wp2_with fail
     go_ret
     exact ⟨rfl, x0_ hgz⟩
 · skip
   have b3 : decide (3000 < (s.length : Int)) = true := by simp; omega
   go_enter Tryz.func17, Tryz.ntmps17
   go_wp2_with fail
   go_ret
   exact ⟨rfl, x0_ hg0⟩
theorem znz_ (xs : List (List UInt8)) (u v : Value) (w : World) (hn : xs.length ≤ 9000000000000000000) (hu : x5_ u xs w) (hv : x5_ v xs w) :
  Calls Tryz.prog 25 #[u, v] w fun e w' => e = .returned (.bool true) ∧ Below w.heap.size w w' := by
 have h := znw_ xs xs u v w hn hu hv
 have e : decide (xs = xs) = true := by simp
 rw [e] at h
 exact h
theorem znA_ (x : LT) : (zaD_ x).length ≤ 9000000000000000000 := by
 unfold zaD_
 split
 · rename_i h
   unfold w7_ at h
   rw [Bool.and_eq_true, decide_eq_true_eq] at h
   have := zfi_ x
   omega
 · simp
theorem znB_ (x : LT) (v : Value) (q : Nat → Prop) (w : World) (hX : y2_ q w x v) (hG : GOk w) :
  Calls Tryz.prog 11 #[v] w fun e w' => e = .returned (.bool true) ∧ Below w.heap.size w w' := by
 obtain ⟨y, ee, hw⟩ : ∃ y ee, k1_ x = .tuple #[.string (bs y), .int .i64 ee] := by unfold k1_; split <;> exact ⟨_, _, rfl⟩
 have HW := Lib.hid hw
 have HG0 := Lib.hid hG
 have HX0 := Lib.hid hX
 obtain ⟨k, t, n, ks⟩ := x
 obtain ⟨ad, c, rfl, _⟩ := y3_ hX
 clear hG hX hw
 go_enter Tryz.func11, Tryz.ntmps11
 have hg0 : GL [] w w := z1_ _ _
 have hs0 : w.heap.size ≤ w.heap.size := Nat.le_refl _
 go_wp2_with fail
 have HX1 := Lib.hid (z7_ (z6_ (z1_ _ _) (.cells #[.int .u8 k, .string (bs t), .int .i64 n, .slice ad ks.length c] 25)) _ _ HX0.out)
 have HA1 := Lib.hid ((z3_ w (.cells #[.int .u8 k, .string (bs t), .int .i64 n, .slice ad ks.length c] 25)))
 have HG1 := Lib.hid (y5_ HG0.out (.cells #[.int .u8 k, .string (bs t), .int .i64 n, .slice ad ks.length c] 25))
 have hg1 := z6_ hg0 (.cells #[.int .u8 k, .string (bs t), .int .i64 n, .slice ad ks.length c] 25)
 have geA : w.heap.size ≤ w.heap.size := by have := hg0.size; omega
 have gnA : gN ≤ w.heap.size := by have := HG0.out.size; omega
 generalize (w.alloc (.cells #[.int .u8 k, .string (bs t), .int .i64 n, .slice ad ks.length c] 25)) = w1 at *
 generalize w.heap.size = A at *
 have hs1 := hg1.size
 refine (zcq_ 300 om_ om_ (.mk k t n ks) _ _ _ HX1.out).mono ?_
 rintro e w2 ⟨hb2, z1, rfl, hz10, hz11⟩
 have HA2 := Lib.hid (z9_ HA1.out hb2 (z0_ HA1.out))
 have HG2 := Lib.hid (y6_ HG1.out hb2)
 have hg2 := z4_ hb2 hg1
 have hs2 := hg2.size
 have HX2 := Lib.hid (z7_ (z4_ hb2 (z1_ _ _)) _ _ HX1.out)
 by_cases h1 : z1 ≤ 300
 · skip
   have b1 : decide (300 < z1) = false := by simp; omega
   have fa1 := z2_ HA2.out
   have fb1 := z5_ HA2.out
   have fl1 := z0_ HA2.out
   go_wp2_with fail
   refine (zbx_ (.mk k t n ks) _ _ _ HX2.out HG2.out).mono ?_
   rintro e w3 ⟨rfl, hb3⟩
   rw [HW.out]
   clear fa1 fb1 fl1
   have HA3 := Lib.hid (z9_ HA2.out hb3 (z0_ HA2.out))
   have HG3 := Lib.hid (y6_ HG2.out hb3)
   have hg3 := z4_ hb3 hg2
   have hs3 := hg3.size
   have HX3 := Lib.hid (z7_ (z4_ hb3 (z1_ _ _)) _ _ HX2.out)
   have fa2 := z2_ HA3.out
   have fb2 := z5_ HA3.out
   have fl2 := z0_ HA3.out
   go_wp2_with fail
   refine (znp_ (.mk k t n ks) _ _ _ HX3.out).mono ?_
   rintro e w4 ⟨rfl, hb4⟩
   rw [HW.out]
   clear fa2 fb2 fl2
   have HA4 := Lib.hid (z9_ HA3.out hb4 (z0_ HA3.out))
   have HG4 := Lib.hid (y6_ HG3.out hb4)
   have hg4 := z4_ hb4 hg3
   have hs4 := hg4.size
   have HX4 := Lib.hid (z7_ (z4_ hb4 (z1_ _ _)) _ _ HX3.out)
   have hc1 := fun (W : World) (hgw : GL [] w4 W) => zbf_ (.mk k t n ks) _ _ W (z7_ hgw _ _ HX4.out) (x4_ HG4.out hgw si_)
   have hc2 := fun (W : World) (hgw : GL [] w4 W) => zdg_ (.mk k t n ks) _ _ W (z7_ hgw _ _ HX4.out)
   have hc3 := fun (W : World) (hgw : GL [] w4 W) => zhu_ (.mk k t n ks) _ _ W (z7_ hgw _ _ HX4.out) (x4_ HG4.out hgw si_)
   have hc4 := fun (W : World) (hgw : GL [] w4 W) => znt_ (.mk k t n ks) _ _ W (z7_ hgw _ _ HX4.out)
   have hkl : (zaD_ (.mk k t n ks)).length ≤ 9000000000000000000 := znA_ _
   have hw := fun (W : World) (hgw : GL [] w4 W) => zak_ W (x4_ HG4.out hgw si_)
   generalize w7_ (.mk k t n ks) = zo at *
   generalize zaD_ (.mk k t n ks) = kz at *
   have HC1 := Lib.hid hc1
   have HC2 := Lib.hid hc2
   have HC3 := Lib.hid hc3
   have HC4 := Lib.hid hc4
   have HWW := Lib.hid hw
   clear hc1 hc2 hc3 hc4 hw
   have hg44 : GL [] w4 w4 := z1_ _ _
   have fa3 := z2_ HA4.out
   have fb3 := z5_ HA4.out
   have fl3 := z0_ HA4.out
   cases zo
   all_goals
    go_wp2
    go_region_held3 (fun w' => w'.cell? ⟨A, 0, none⟩ = some (.int .u8 k) ∧ w'.cell? ⟨A, 1, none⟩ = some (.string (bs t)) ∧ w'.cell? ⟨A, 2, none⟩ = some (.int .i64 n) ∧ w'.cell? ⟨A, 3, none⟩ = some (.slice ad ks.length c) ∧ GL [] w4 w')
     (first
       | (refine ⟨?_, ?_, ?_, ?_, ?_⟩
          · go_keep
          · go_keep
          · go_keep
          · go_keep
          · exact zam_ hg44)
       | (go_split_ands
          refine ⟨?_, ?_, ?_, ?_, ?_⟩
          · exact (hbk.cell (World.block_lt_of_cell? _ _ as_)).trans as_
          · exact (hbk.cell (World.block_lt_of_cell? _ _ as_)).trans as_
          · exact (hbk.cell (World.block_lt_of_cell? _ _ as_)).trans as_
          · exact (hbk.cell (World.block_lt_of_cell? _ _ as_)).trans as_
          · exact z4_ hbk as_))
     ((first
       | (go_at_call 23; go_split_ands; refine (HC1.out _ as_).mono ?_; rintro e wk ⟨rfl, hbk⟩)
       | (go_at_call 24; go_split_ands; refine (HC2.out _ as_).mono ?_; rintro e wk ⟨rfl, hbk⟩)
       | (go_at_call 26; go_split_ands; refine (HC3.out _ as_).mono ?_; rintro e wk ⟨hbk, uk, rfl, huk⟩; obtain ⟨ak, ck, hvk, _⟩ := za6_ huk; subst hvk; have HUK := Lib.hid huk; clear huk)
       | (go_at_call 27; go_split_ands; refine (HC4.out _ as_).mono ?_; rintro e wk ⟨hbk, um, rfl, hum⟩; obtain ⟨am, cm, hvm, _⟩ := za6_ hum; subst hvm; have HUM := Lib.hid hum; clear hum; have HUK2 := Lib.hid (y4_ HUK.out (z4_ hbk (by first | exact z1_ _ _ | exact zam_ (z1_ _ _) | exact za8_ (z1_ _ _) _))))
       | (go_at_call 19; go_split_ands; refine (HWW.out _ as_).mono ?_; rintro e wk ⟨rfl, hbk⟩)
       | (go_at_call 25; go_split_ands; refine (znz_ kz _ _ _ hkl (y4_ HUK2.out (by first | exact z1_ _ _ | exact zam_ (z1_ _ _) | exact za8_ (z1_ _ _) _)) (y4_ HUM.out (by first | exact z1_ _ _ | exact zam_ (z1_ _ _) | exact za8_ (z1_ _ _) _))).mono ?_; rintro e wk ⟨rfl, hbk⟩)))
    all_goals
     go_wp2
     go_ret
     exact ⟨rfl, x0_ (x1_ (z4_ hbk as_) hg4 si_)⟩
 · skip
   have b1 : decide (300 < z1) = true := by simp; omega
   go_wp2_with fail
   go_ret
   exact ⟨rfl, x0_ hg2⟩
theorem zeu_ {α : Type} (o : Option α) : o = none ∨ ∃ y, o = some y := by
 cases o with
 | none => exact .inl rfl
 | some y => exact .inr ⟨y, rfl⟩
theorem znZ_ (a b : LT) (va vb : Value) (s : List UInt8) (hsl : s.length ≤ 9000000000000000000) (q q2 : Nat → Prop) (w : World) (ha : y2_ q w a va) (hb : y2_ q2 w b vb) (hG : GOk w) :
  Calls Tryz.prog 13 #[va, vb, .string (bs s)] w fun e w' => e = .returned (.bool true) ∧ Below w.heap.size w w' := by
 have HG0 := Lib.hid hG
 have HX0 := Lib.hid (q9_ (q := fun _ => True) (fun _ _ _ => trivial) _ _ ha)
 have HY0 := Lib.hid (q9_ (q := fun _ => True) (fun _ _ _ => trivial) _ _ hb)
 obtain ⟨ka, ta, na, ksa⟩ := a
 obtain ⟨ada, ca, rfl, _⟩ := y3_ ha
 obtain ⟨kb, tb, nb, ksb⟩ := b
 obtain ⟨adb, cb, rfl, _⟩ := y3_ hb
 clear hG ha hb
 go_enter Tryz.func13, Tryz.ntmps13
 have hg0 : GL [] w w := z1_ _ _
 have hs0 : w.heap.size ≤ w.heap.size := Nat.le_refl _
 go_wp2_with fail
 have HX1 := Lib.hid (z7_ (z6_ (z6_ (z1_ _ _) (.cells #[.int .u8 ka, .string (bs ta), .int .i64 na, .slice ada ksa.length ca] 25)) (.cells #[.int .u8 kb, .string (bs tb), .int .i64 nb, .slice adb ksb.length cb] 25)) _ _ HX0.out)
 have HY1 := Lib.hid (z7_ (z6_ (z6_ (z1_ _ _) (.cells #[.int .u8 ka, .string (bs ta), .int .i64 na, .slice ada ksa.length ca] 25)) (.cells #[.int .u8 kb, .string (bs tb), .int .i64 nb, .slice adb ksb.length cb] 25)) _ _ HY0.out)
 have HA1 := Lib.hid ((z8_ (z3_ w (.cells #[.int .u8 ka, .string (bs ta), .int .i64 na, .slice ada ksa.length ca] 25)) (.cells #[.int .u8 kb, .string (bs tb), .int .i64 nb, .slice adb ksb.length cb] 25)))
 have hZ_ := z3_ (w.alloc (.cells #[.int .u8 ka, .string (bs ta), .int .i64 na, .slice ada ksa.length ca] 25)) (.cells #[.int .u8 kb, .string (bs tb), .int .i64 nb, .slice adb ksb.length cb] 25)
 rw [show (w.alloc (.cells #[.int .u8 ka, .string (bs ta), .int .i64 na, .slice ada ksa.length ca] 25)).heap.size = w.heap.size + 1 by simp] at hZ_
 have HB1 := Lib.hid (hZ_)
 clear hZ_
 have HG1 := Lib.hid (y5_ (y5_ HG0.out (.cells #[.int .u8 ka, .string (bs ta), .int .i64 na, .slice ada ksa.length ca] 25)) (.cells #[.int .u8 kb, .string (bs tb), .int .i64 nb, .slice adb ksb.length cb] 25))
 have hg1 := z6_ (z6_ hg0 (.cells #[.int .u8 ka, .string (bs ta), .int .i64 na, .slice ada ksa.length ca] 25)) (.cells #[.int .u8 kb, .string (bs tb), .int .i64 nb, .slice adb ksb.length cb] 25)
 have geA : w.heap.size ≤ w.heap.size := by have := hg0.size; omega
 have gnA : gN ≤ w.heap.size := by have := HG0.out.size; omega
 have geB : w.heap.size ≤ w.heap.size + 1 := by have := hg0.size; omega
 have gnB : gN ≤ w.heap.size + 1 := by have := HG0.out.size; omega
 have ltAB : w.heap.size < w.heap.size + 1 := by omega
 have neAB : w.heap.size ≠ w.heap.size + 1 := by omega
 have neBA : w.heap.size + 1 ≠ w.heap.size := by omega
 generalize ((w.alloc (.cells #[.int .u8 ka, .string (bs ta), .int .i64 na, .slice ada ksa.length ca] 25)).alloc (.cells #[.int .u8 kb, .string (bs tb), .int .i64 nb, .slice adb ksb.length cb] 25)) = w1 at *
 generalize w.heap.size + 1 = B at *
 generalize w.heap.size = A at *
 have hs1 := hg1.size
 refine (zcq_ 300 om_ om_ (.mk ka ta na ksa) _ _ _ HX1.out).mono ?_
 rintro e w2 ⟨hb2, z1, rfl, hz10, hz11⟩
 have HB2 := Lib.hid (z9_ HB1.out hb2 (z0_ HB1.out))
 have HA2 := Lib.hid (z9_ HA1.out hb2 (z0_ HA1.out))
 have HG2 := Lib.hid (y6_ HG1.out hb2)
 have hg2 := z4_ hb2 hg1
 have hs2 := hg2.size
 have HX2 := Lib.hid (z7_ (z4_ hb2 (z1_ _ _)) _ _ HX1.out)
 have HY2 := Lib.hid (z7_ (z4_ hb2 (z1_ _ _)) _ _ HY1.out)
 by_cases h1 : z1 ≤ 300
 · skip
   have b1 : decide (300 < z1) = false := by simp; omega
   have fa1 := z2_ HB2.out
   have fb1 := z5_ HB2.out
   have fl1 := z0_ HB2.out
   go_wp2_with fail
   refine (zcq_ 300 om_ om_ (.mk kb tb nb ksb) _ _ _ HY2.out).mono ?_
   rintro e w3 ⟨hb3, z2, rfl, hz20, hz21⟩
   clear fa1 fb1 fl1
   have HB3 := Lib.hid (z9_ HB2.out hb3 (z0_ HB2.out))
   have HA3 := Lib.hid (z9_ HA2.out hb3 (z0_ HA2.out))
   have HG3 := Lib.hid (y6_ HG2.out hb3)
   have hg3 := z4_ hb3 hg2
   have hs3 := hg3.size
   have HX3 := Lib.hid (z7_ (z4_ hb3 (z1_ _ _)) _ _ HX2.out)
   have HY3 := Lib.hid (z7_ (z4_ hb3 (z1_ _ _)) _ _ HY2.out)
   by_cases h2 : z2 ≤ 300
   · skip
     have b2 : decide (300 < z2) = false := by simp; omega
     by_cases h3 : s.length ≤ 3000
     · skip
       have b3 : decide (3000 < (s.length : Int)) = false := by simp; omega
       by_cases ha : w7_ (.mk ka ta na ksa) = true
       · skip
         have hwa : k1_ (.mk ka ta na ksa) = .tuple #[.string (bs (w5_ (.mk ka ta na ksa))), .int .i64 0] := by unfold k1_; rw [if_pos ha]
         have hra := (zb4_ (w5_ (.mk ka ta na ksa)) (.mk ka ta na ksa)).2 ⟨ha, rfl⟩
         have hla : (w5_ (.mk ka ta na ksa)).length ≤ 100000000000 := by
          have hx := ha
          unfold w7_ at hx
          rw [Bool.and_eq_true, decide_eq_true_eq] at hx
          have := zda_ _ hx.2
          omega
         have HWA := Lib.hid hwa
         have HRA0 := Lib.hid hra
         have HA1 := Lib.hid ha
         clear hwa hra ha
         have fa2 := z2_ HA3.out
         have fb2 := z5_ HA3.out
         have fl2 := z0_ HA3.out
         go_wp2_with fail
         refine (zbx_ (.mk ka ta na ksa) _ _ _ HX3.out HG3.out).mono ?_
         rintro e w4 ⟨rfl, hb4⟩
         rw [HWA.out]
         clear fa2 fb2 fl2
         have HB4 := Lib.hid (z9_ HB3.out hb4 (z0_ HB3.out))
         have HA4 := Lib.hid (z9_ HA3.out hb4 (z0_ HA3.out))
         have HG4 := Lib.hid (y6_ HG3.out hb4)
         have hg4 := z4_ hb4 hg3
         have hs4 := hg4.size
         have HX4 := Lib.hid (z7_ (z4_ hb4 (z1_ _ _)) _ _ HX3.out)
         have HY4 := Lib.hid (z7_ (z4_ hb4 (z1_ _ _)) _ _ HY3.out)
         have fa3 := z2_ HB4.out
         have fb3 := z5_ HB4.out
         have fl3 := z0_ HB4.out
         go_wp2_with fail
         clear fa3 fb3 fl3
         have ha := HA1.out
         have hra := HRA0.out
         clear HWA HRA0 HA1
         by_cases hb : w7_ (.mk kb tb nb ksb) = true
         · skip
           have hwb : k1_ (.mk kb tb nb ksb) = .tuple #[.string (bs (w5_ (.mk kb tb nb ksb))), .int .i64 0] := by unfold k1_; rw [if_pos hb]
           have hinj := zkO_ ha hb
           rcases Bool.eq_false_or_eq_true (zbS_ (.mk ka ta na ksa) (.mk kb tb nb ksb)) with hab | hab
           · skip
             have hxy : w5_ (.mk ka ta na ksa) = w5_ (.mk kb tb nb ksb) := hinj.2 (zgy_ _ _ hab)
             rw [← hxy] at hwb
             clear hxy
             clear hinj ha hb
             have HRA := Lib.hid hra
             have HWB := Lib.hid hwb
             have HAB := Lib.hid hab
             clear hra hwb hab
             generalize w5_ (.mk ka ta na ksa) = xa at *
             refine (zbx_ (.mk kb tb nb ksb) _ _ _ HY4.out HG4.out).mono ?_
             rintro e w5 ⟨rfl, hb5⟩
             rw [HWB.out]
             have HB5 := Lib.hid (z9_ HB4.out hb5 (z0_ HB4.out))
             have HA5 := Lib.hid (z9_ HA4.out hb5 (z0_ HA4.out))
             have HG5 := Lib.hid (y6_ HG4.out hb5)
             have hg5 := z4_ hb5 hg4
             have hs5 := hg5.size
             have HX5 := Lib.hid (z7_ (z4_ hb5 (z1_ _ _)) _ _ HX4.out)
             have HY5 := Lib.hid (z7_ (z4_ hb5 (z1_ _ _)) _ _ HY4.out)
             go_wp2_with fail
             refine (zbg_ xa hla _ HG5.out).mono ?_
             intro e w6 hp
             rw [HRA.out] at hp
             obtain ⟨hb6, v6, rfl, hl6⟩ := hp
             obtain ⟨adc, cc, rfl, _⟩ := y3_ hl6
             have HC6 := Lib.hid (q9_ (q := fun _ => True) (fun _ _ _ => trivial) _ _ hl6)
             clear hl6
             have HX6 := Lib.hid (z7_ (z4_ hb6 (z1_ _ _)) _ _ HX5.out)
             have HY6 := Lib.hid (z7_ (z4_ hb6 (z1_ _ _)) _ _ HY5.out)
             have HA6 := Lib.hid (z9_ HA5.out hb6 (z0_ HA5.out))
             have HB6 := Lib.hid (z9_ HB5.out hb6 (z0_ HB5.out))
             have HG6 := Lib.hid (y6_ HG5.out hb6)
             have hg6 := z4_ hb6 hg5
             have hs6 := hg6.size
             have fa4 := z2_ HA6.out
             have fb4 := z5_ HA6.out
             have fl4 := z0_ HA6.out
             have flx1 : A < w6.heap.size + 1 := by omega
             go_wp2_with fail
             clear fa4 fb4 fl4
             clear flx1
             have HX7 := Lib.hid (z7_ (z6_ (z1_ _ _) (.cells #[.int .u8 ka, .string (bs ta), .int .i64 na, .slice adc ksa.length cc] 25)) _ _ HX6.out)
             have HY7 := Lib.hid (z7_ (z6_ (z1_ _ _) (.cells #[.int .u8 ka, .string (bs ta), .int .i64 na, .slice adc ksa.length cc] 25)) _ _ HY6.out)
             have HC7 := Lib.hid (z7_ (z6_ (z1_ _ _) (.cells #[.int .u8 ka, .string (bs ta), .int .i64 na, .slice adc ksa.length cc] 25)) _ _ HC6.out)
             have HB7 := Lib.hid (z8_ HB6.out (.cells #[.int .u8 ka, .string (bs ta), .int .i64 na, .slice adc ksa.length cc] 25))
             have ltBCB : B < w6.heap.size := by have := z0_ HB6.out; omega
             have neBCB : B ≠ w6.heap.size := by omega
             have neCBB : w6.heap.size ≠ B := by omega
             have HA7 := Lib.hid (z8_ HA6.out (.cells #[.int .u8 ka, .string (bs ta), .int .i64 na, .slice adc ksa.length cc] 25))
             have ltACB : A < w6.heap.size := by have := z0_ HA6.out; omega
             have neACB : A ≠ w6.heap.size := by omega
             have neCBA : w6.heap.size ≠ A := by omega
             have HCB7 := Lib.hid ((z3_ w6 (.cells #[.int .u8 ka, .string (bs ta), .int .i64 na, .slice adc ksa.length cc] 25)))
             have HG7 := Lib.hid (y5_ HG6.out (.cells #[.int .u8 ka, .string (bs ta), .int .i64 na, .slice adc ksa.length cc] 25))
             have hg7 := z6_ hg6 (.cells #[.int .u8 ka, .string (bs ta), .int .i64 na, .slice adc ksa.length cc] 25)
             have geCB : w.heap.size ≤ w6.heap.size := by have := hg6.size; omega
             have gnCB : gN ≤ w6.heap.size := by have := HG6.out.size; omega
             generalize (w6.alloc (.cells #[.int .u8 ka, .string (bs ta), .int .i64 na, .slice adc ksa.length cc] 25)) = w7 at *
             generalize w6.heap.size = CB at *
             have hs7 := hg7.size
             refine (zah_ (.mk ka ta na ksa) (.mk ka ta na ksa) _ _ _ _ _ HX7.out HC7.out).mono ?_
             rintro e w8 ⟨rfl, hb8⟩
             rw [zbd_]
             have HB8 := Lib.hid (z9_ HB7.out hb8 (z0_ HB7.out))
             have HA8 := Lib.hid (z9_ HA7.out hb8 (z0_ HA7.out))
             have HCB8 := Lib.hid (z9_ HCB7.out hb8 (z0_ HCB7.out))
             have HG8 := Lib.hid (y6_ HG7.out hb8)
             have hg8 := z4_ hb8 hg7
             have hs8 := hg8.size
             have HX8 := Lib.hid (z7_ (z4_ hb8 (z1_ _ _)) _ _ HX7.out)
             have HY8 := Lib.hid (z7_ (z4_ hb8 (z1_ _ _)) _ _ HY7.out)
             have HC8 := Lib.hid (z7_ (z4_ hb8 (z1_ _ _)) _ _ HC7.out)
             have fa5 := z2_ HA8.out
             have fb5 := z5_ HA8.out
             have fl5 := z0_ HA8.out
             have fa6 := z2_ HB8.out
             have fb6 := z5_ HB8.out
             have fl6 := z0_ HB8.out
             go_wp2_with fail
             refine (zah_ (.mk ka ta na ksa) (.mk kb tb nb ksb) _ _ _ _ _ HX8.out HY8.out).mono ?_
             rintro e w9 ⟨rfl, hb9⟩
             rw [HAB.out]
             clear fa5 fb5 fl5 fa6 fb6 fl6
             have HB9 := Lib.hid (z9_ HB8.out hb9 (z0_ HB8.out))
             have HA9 := Lib.hid (z9_ HA8.out hb9 (z0_ HA8.out))
             have HCB9 := Lib.hid (z9_ HCB8.out hb9 (z0_ HCB8.out))
             have HG9 := Lib.hid (y6_ HG8.out hb9)
             have hg9 := z4_ hb9 hg8
             have hs9 := hg9.size
             have HX9 := Lib.hid (z7_ (z4_ hb9 (z1_ _ _)) _ _ HX8.out)
             have HY9 := Lib.hid (z7_ (z4_ hb9 (z1_ _ _)) _ _ HY8.out)
             have HC9 := Lib.hid (z7_ (z4_ hb9 (z1_ _ _)) _ _ HC8.out)
             go_wp2_with fail
             rcases zeu_ (k8_ v4_ q6_ s) with hs | ⟨y, hs⟩
             · skip
               have HRS := Lib.hid hs
               clear hs
               refine (zbg_ s om_ _ HG9.out).mono ?_
               intro e wr hp
               rw [HRS.out] at hp
               obtain ⟨hbr, rfl⟩ := hp
               have HGr := Lib.hid (y6_ HG9.out hbr)
               have hgr := z4_ hbr hg9
               have hsr := hgr.size
               go_wp2_with fail
               have HCCq := Lib.hid ((z3_ wr zl_))
               have HGq := Lib.hid (y5_ HGr.out zl_)
               have hgq := z6_ hgr zl_
               have geCC : w.heap.size ≤ wr.heap.size := by have := hgr.size; omega
               have gnCC : gN ≤ wr.heap.size := by have := HGr.out.size; omega
               generalize (wr.alloc zl_) = wq at *
               generalize wr.heap.size = CC at *
               have hsq := hgq.size
               refine (zak_ _ HGq.out).mono ?_
               rintro e wz ⟨rfl, hbz⟩
               have HCCz := Lib.hid (z9_ HCCq.out hbz (z0_ HCCq.out))
               have HGz := Lib.hid (y6_ HGq.out hbz)
               have hgz := z4_ hbz hgq
               have hsz := hgz.size
               go_wp2_with fail
               go_ret
               exact ⟨rfl, x0_ hgz⟩
             · skip
               obtain ⟨hsr1, hsr2⟩ := (zb4_ s y).1 hs
               have hwy : k1_ y = .tuple #[.string (bs s), .int .i64 0] := by unfold k1_; rw [if_pos hsr1, hsr2]
               have HRS := Lib.hid hs
               have HWY := Lib.hid hwy
               have HRY := Lib.hid hsr1
               clear hs hsr1 hsr2 hwy
               obtain ⟨ky, ty, ny, ksy⟩ := y
               refine (zbg_ s om_ _ HG9.out).mono ?_
               intro e wr hp
               rw [HRS.out] at hp
               obtain ⟨hbr, vr, rfl, hlr⟩ := hp
               obtain ⟨ady, cy, rfl, _⟩ := y3_ hlr
               have HCr := Lib.hid hlr
               clear hlr
               have HGr := Lib.hid (y6_ HG9.out hbr)
               have hgr := z4_ hbr hg9
               have hsr := hgr.size
               go_wp2_with fail
               have HCq := Lib.hid (z7_ (z6_ (z1_ _ _) (.cells #[.int .u8 ky, .string (bs ty), .int .i64 ny, .slice ady ksy.length cy] 25)) _ _ HCr.out)
               have HCCq := Lib.hid ((z3_ wr (.cells #[.int .u8 ky, .string (bs ty), .int .i64 ny, .slice ady ksy.length cy] 25)))
               have HGq := Lib.hid (y5_ HGr.out (.cells #[.int .u8 ky, .string (bs ty), .int .i64 ny, .slice ady ksy.length cy] 25))
               have hgq := z6_ hgr (.cells #[.int .u8 ky, .string (bs ty), .int .i64 ny, .slice ady ksy.length cy] 25)
               have geCC : w.heap.size ≤ wr.heap.size := by have := hgr.size; omega
               have gnCC : gN ≤ wr.heap.size := by have := HGr.out.size; omega
               generalize (wr.alloc (.cells #[.int .u8 ky, .string (bs ty), .int .i64 ny, .slice ady ksy.length cy] 25)) = wq at *
               generalize wr.heap.size = CC at *
               have hsq := hgq.size
               refine (zbx_ (.mk ky ty ny ksy) _ _ _ HCq.out HGq.out).mono ?_
               rintro e wu ⟨rfl, hbu⟩
               rw [HWY.out]
               have HCCu := Lib.hid (z9_ HCCq.out hbu (z0_ HCCq.out))
               have HGu := Lib.hid (y6_ HGq.out hbu)
               have hgu := z4_ hbu hgq
               have hsu := hgu.size
               have HCu := Lib.hid (z7_ (z4_ hbu (z1_ _ _)) _ _ HCq.out)
               have fa7 := z2_ HCCu.out
               have fb7 := z5_ HCCu.out
               have fl7 := z0_ HCCu.out
               go_wp2_with fail
               refine (zbf_ (.mk ky ty ny ksy) _ _ _ HCu.out HGu.out).mono ?_
               rintro e wv ⟨rfl, hbv⟩
               rw [HRY.out]
               clear fa7 fb7 fl7
               have HCCv := Lib.hid (z9_ HCCu.out hbv (z0_ HCCu.out))
               have HGv := Lib.hid (y6_ HGu.out hbv)
               have hgv := z4_ hbv hgu
               have hsv := hgv.size
               have HCv := Lib.hid (z7_ (z4_ hbv (z1_ _ _)) _ _ HCu.out)
               go_wp2_with fail
               refine (zak_ _ HGv.out).mono ?_
               rintro e wz ⟨rfl, hbz⟩
               have HCCz := Lib.hid (z9_ HCCv.out hbz (z0_ HCCv.out))
               have HGz := Lib.hid (y6_ HGv.out hbz)
               have hgz := z4_ hbz hgv
               have hsz := hgz.size
               have HCz := Lib.hid (z7_ (z4_ hbz (z1_ _ _)) _ _ HCv.out)
               go_wp2_with fail
               go_ret
               exact ⟨rfl, x0_ hgz⟩
           · skip
             have hxy : ¬ w5_ (.mk ka ta na ksa) = w5_ (.mk kb tb nb ksb) := fun h => by
              have h2 := hinj.1 h
              rw [h2, zbd_] at hab
              cases hab
             have hxy2 : (w5_ (.mk ka ta na ksa) == w5_ (.mk kb tb nb ksb)) = false := by simpa using hxy
             clear hinj ha hb
             have HRA := Lib.hid hra
             have HWB := Lib.hid hwb
             have HAB := Lib.hid hab
             clear hra hwb hab
             generalize w5_ (.mk ka ta na ksa) = xa at *
             generalize w5_ (.mk kb tb nb ksb) = xb at *
             refine (zbx_ (.mk kb tb nb ksb) _ _ _ HY4.out HG4.out).mono ?_
             rintro e w5 ⟨rfl, hb5⟩
             rw [HWB.out]
             have HB5 := Lib.hid (z9_ HB4.out hb5 (z0_ HB4.out))
             have HA5 := Lib.hid (z9_ HA4.out hb5 (z0_ HA4.out))
             have HG5 := Lib.hid (y6_ HG4.out hb5)
             have hg5 := z4_ hb5 hg4
             have hs5 := hg5.size
             have HX5 := Lib.hid (z7_ (z4_ hb5 (z1_ _ _)) _ _ HX4.out)
             have HY5 := Lib.hid (z7_ (z4_ hb5 (z1_ _ _)) _ _ HY4.out)
             go_wp2_with fail
             refine (zbg_ xa hla _ HG5.out).mono ?_
             intro e w6 hp
             rw [HRA.out] at hp
             obtain ⟨hb6, v6, rfl, hl6⟩ := hp
             obtain ⟨adc, cc, rfl, _⟩ := y3_ hl6
             have HC6 := Lib.hid (q9_ (q := fun _ => True) (fun _ _ _ => trivial) _ _ hl6)
             clear hl6
             have HX6 := Lib.hid (z7_ (z4_ hb6 (z1_ _ _)) _ _ HX5.out)
             have HY6 := Lib.hid (z7_ (z4_ hb6 (z1_ _ _)) _ _ HY5.out)
             have HA6 := Lib.hid (z9_ HA5.out hb6 (z0_ HA5.out))
             have HB6 := Lib.hid (z9_ HB5.out hb6 (z0_ HB5.out))
             have HG6 := Lib.hid (y6_ HG5.out hb6)
             have hg6 := z4_ hb6 hg5
             have hs6 := hg6.size
             have fa4 := z2_ HA6.out
             have fb4 := z5_ HA6.out
             have fl4 := z0_ HA6.out
             have flx1 : A < w6.heap.size + 1 := by omega
             go_wp2_with fail
             clear fa4 fb4 fl4
             clear flx1
             have HX7 := Lib.hid (z7_ (z6_ (z1_ _ _) (.cells #[.int .u8 ka, .string (bs ta), .int .i64 na, .slice adc ksa.length cc] 25)) _ _ HX6.out)
             have HY7 := Lib.hid (z7_ (z6_ (z1_ _ _) (.cells #[.int .u8 ka, .string (bs ta), .int .i64 na, .slice adc ksa.length cc] 25)) _ _ HY6.out)
             have HC7 := Lib.hid (z7_ (z6_ (z1_ _ _) (.cells #[.int .u8 ka, .string (bs ta), .int .i64 na, .slice adc ksa.length cc] 25)) _ _ HC6.out)
             have HB7 := Lib.hid (z8_ HB6.out (.cells #[.int .u8 ka, .string (bs ta), .int .i64 na, .slice adc ksa.length cc] 25))
             have ltBCB : B < w6.heap.size := by have := z0_ HB6.out; omega
             have neBCB : B ≠ w6.heap.size := by omega
             have neCBB : w6.heap.size ≠ B := by omega
             have HA7 := Lib.hid (z8_ HA6.out (.cells #[.int .u8 ka, .string (bs ta), .int .i64 na, .slice adc ksa.length cc] 25))
             have ltACB : A < w6.heap.size := by have := z0_ HA6.out; omega
             have neACB : A ≠ w6.heap.size := by omega
             have neCBA : w6.heap.size ≠ A := by omega
             have HCB7 := Lib.hid ((z3_ w6 (.cells #[.int .u8 ka, .string (bs ta), .int .i64 na, .slice adc ksa.length cc] 25)))
             have HG7 := Lib.hid (y5_ HG6.out (.cells #[.int .u8 ka, .string (bs ta), .int .i64 na, .slice adc ksa.length cc] 25))
             have hg7 := z6_ hg6 (.cells #[.int .u8 ka, .string (bs ta), .int .i64 na, .slice adc ksa.length cc] 25)
             have geCB : w.heap.size ≤ w6.heap.size := by have := hg6.size; omega
             have gnCB : gN ≤ w6.heap.size := by have := HG6.out.size; omega
             generalize (w6.alloc (.cells #[.int .u8 ka, .string (bs ta), .int .i64 na, .slice adc ksa.length cc] 25)) = w7 at *
             generalize w6.heap.size = CB at *
             have hs7 := hg7.size
             refine (zah_ (.mk ka ta na ksa) (.mk ka ta na ksa) _ _ _ _ _ HX7.out HC7.out).mono ?_
             rintro e w8 ⟨rfl, hb8⟩
             rw [zbd_]
             have HB8 := Lib.hid (z9_ HB7.out hb8 (z0_ HB7.out))
             have HA8 := Lib.hid (z9_ HA7.out hb8 (z0_ HA7.out))
             have HCB8 := Lib.hid (z9_ HCB7.out hb8 (z0_ HCB7.out))
             have HG8 := Lib.hid (y6_ HG7.out hb8)
             have hg8 := z4_ hb8 hg7
             have hs8 := hg8.size
             have HX8 := Lib.hid (z7_ (z4_ hb8 (z1_ _ _)) _ _ HX7.out)
             have HY8 := Lib.hid (z7_ (z4_ hb8 (z1_ _ _)) _ _ HY7.out)
             have HC8 := Lib.hid (z7_ (z4_ hb8 (z1_ _ _)) _ _ HC7.out)
             have fa5 := z2_ HA8.out
             have fb5 := z5_ HA8.out
             have fl5 := z0_ HA8.out
             have fa6 := z2_ HB8.out
             have fb6 := z5_ HB8.out
             have fl6 := z0_ HB8.out
             go_wp2_with fail
             refine (zah_ (.mk ka ta na ksa) (.mk kb tb nb ksb) _ _ _ _ _ HX8.out HY8.out).mono ?_
             rintro e w9 ⟨rfl, hb9⟩
             rw [HAB.out]
             clear fa5 fb5 fl5 fa6 fb6 fl6
             have HB9 := Lib.hid (z9_ HB8.out hb9 (z0_ HB8.out))
             have HA9 := Lib.hid (z9_ HA8.out hb9 (z0_ HA8.out))
             have HCB9 := Lib.hid (z9_ HCB8.out hb9 (z0_ HCB8.out))
             have HG9 := Lib.hid (y6_ HG8.out hb9)
             have hg9 := z4_ hb9 hg8
             have hs9 := hg9.size
             have HX9 := Lib.hid (z7_ (z4_ hb9 (z1_ _ _)) _ _ HX8.out)
             have HY9 := Lib.hid (z7_ (z4_ hb9 (z1_ _ _)) _ _ HY8.out)
             have HC9 := Lib.hid (z7_ (z4_ hb9 (z1_ _ _)) _ _ HC8.out)
             go_wp2_with fail
             rcases zeu_ (k8_ v4_ q6_ s) with hs | ⟨y, hs⟩
             · skip
               have HRS := Lib.hid hs
               clear hs
               refine (zbg_ s om_ _ HG9.out).mono ?_
               intro e wr hp
               rw [HRS.out] at hp
               obtain ⟨hbr, rfl⟩ := hp
               have HGr := Lib.hid (y6_ HG9.out hbr)
               have hgr := z4_ hbr hg9
               have hsr := hgr.size
               go_wp2_with fail
               have HCCq := Lib.hid ((z3_ wr zl_))
               have HGq := Lib.hid (y5_ HGr.out zl_)
               have hgq := z6_ hgr zl_
               have geCC : w.heap.size ≤ wr.heap.size := by have := hgr.size; omega
               have gnCC : gN ≤ wr.heap.size := by have := HGr.out.size; omega
               generalize (wr.alloc zl_) = wq at *
               generalize wr.heap.size = CC at *
               have hsq := hgq.size
               refine (zak_ _ HGq.out).mono ?_
               rintro e wz ⟨rfl, hbz⟩
               have HCCz := Lib.hid (z9_ HCCq.out hbz (z0_ HCCq.out))
               have HGz := Lib.hid (y6_ HGq.out hbz)
               have hgz := z4_ hbz hgq
               have hsz := hgz.size
               go_wp2_with fail
               go_ret
               exact ⟨rfl, x0_ hgz⟩
             · skip
               obtain ⟨hsr1, hsr2⟩ := (zb4_ s y).1 hs
               have hwy : k1_ y = .tuple #[.string (bs s), .int .i64 0] := by unfold k1_; rw [if_pos hsr1, hsr2]
               have HRS := Lib.hid hs
               have HWY := Lib.hid hwy
               have HRY := Lib.hid hsr1
               clear hs hsr1 hsr2 hwy
               obtain ⟨ky, ty, ny, ksy⟩ := y
               refine (zbg_ s om_ _ HG9.out).mono ?_
               intro e wr hp
               rw [HRS.out] at hp
               obtain ⟨hbr, vr, rfl, hlr⟩ := hp
               obtain ⟨ady, cy, rfl, _⟩ := y3_ hlr
               have HCr := Lib.hid hlr
               clear hlr
               have HGr := Lib.hid (y6_ HG9.out hbr)
               have hgr := z4_ hbr hg9
               have hsr := hgr.size
               go_wp2_with fail
               have HCq := Lib.hid (z7_ (z6_ (z1_ _ _) (.cells #[.int .u8 ky, .string (bs ty), .int .i64 ny, .slice ady ksy.length cy] 25)) _ _ HCr.out)
               have HCCq := Lib.hid ((z3_ wr (.cells #[.int .u8 ky, .string (bs ty), .int .i64 ny, .slice ady ksy.length cy] 25)))
               have HGq := Lib.hid (y5_ HGr.out (.cells #[.int .u8 ky, .string (bs ty), .int .i64 ny, .slice ady ksy.length cy] 25))
               have hgq := z6_ hgr (.cells #[.int .u8 ky, .string (bs ty), .int .i64 ny, .slice ady ksy.length cy] 25)
               have geCC : w.heap.size ≤ wr.heap.size := by have := hgr.size; omega
               have gnCC : gN ≤ wr.heap.size := by have := HGr.out.size; omega
               generalize (wr.alloc (.cells #[.int .u8 ky, .string (bs ty), .int .i64 ny, .slice ady ksy.length cy] 25)) = wq at *
               generalize wr.heap.size = CC at *
               have hsq := hgq.size
               refine (zbx_ (.mk ky ty ny ksy) _ _ _ HCq.out HGq.out).mono ?_
               rintro e wu ⟨rfl, hbu⟩
               rw [HWY.out]
               have HCCu := Lib.hid (z9_ HCCq.out hbu (z0_ HCCq.out))
               have HGu := Lib.hid (y6_ HGq.out hbu)
               have hgu := z4_ hbu hgq
               have hsu := hgu.size
               have HCu := Lib.hid (z7_ (z4_ hbu (z1_ _ _)) _ _ HCq.out)
               have fa7 := z2_ HCCu.out
               have fb7 := z5_ HCCu.out
               have fl7 := z0_ HCCu.out
               go_wp2_with fail
               refine (zbf_ (.mk ky ty ny ksy) _ _ _ HCu.out HGu.out).mono ?_
               rintro e wv ⟨rfl, hbv⟩
               rw [HRY.out]
               clear fa7 fb7 fl7
               have HCCv := Lib.hid (z9_ HCCu.out hbv (z0_ HCCu.out))
               have HGv := Lib.hid (y6_ HGu.out hbv)
               have hgv := z4_ hbv hgu
               have hsv := hgv.size
               have HCv := Lib.hid (z7_ (z4_ hbv (z1_ _ _)) _ _ HCu.out)
               go_wp2_with fail
               refine (zak_ _ HGv.out).mono ?_
               rintro e wz ⟨rfl, hbz⟩
               have HCCz := Lib.hid (z9_ HCCv.out hbz (z0_ HCCv.out))
               have HGz := Lib.hid (y6_ HGv.out hbz)
               have hgz := z4_ hbz hgv
               have hsz := hgz.size
               have HCz := Lib.hid (z7_ (z4_ hbz (z1_ _ _)) _ _ HCv.out)
               go_wp2_with fail
               go_ret
               exact ⟨rfl, x0_ hgz⟩
         · skip
           have hwb : k1_ (.mk kb tb nb ksb) = .tuple #[.string (bs []), .int .i64 110] := by unfold k1_; rw [if_neg hb]
           clear hb ha
           have HRA := Lib.hid hra
           have HWB := Lib.hid hwb
           clear hra hwb
           generalize w5_ (.mk ka ta na ksa) = xa at *
           refine (zbx_ (.mk kb tb nb ksb) _ _ _ HY4.out HG4.out).mono ?_
           rintro e w5 ⟨rfl, hb5⟩
           rw [HWB.out]
           have HB5 := Lib.hid (z9_ HB4.out hb5 (z0_ HB4.out))
           have HA5 := Lib.hid (z9_ HA4.out hb5 (z0_ HA4.out))
           have HG5 := Lib.hid (y6_ HG4.out hb5)
           have hg5 := z4_ hb5 hg4
           have hs5 := hg5.size
           have HX5 := Lib.hid (z7_ (z4_ hb5 (z1_ _ _)) _ _ HX4.out)
           have HY5 := Lib.hid (z7_ (z4_ hb5 (z1_ _ _)) _ _ HY4.out)
           go_wp2_with fail
           refine (zbg_ xa hla _ HG5.out).mono ?_
           intro e w6 hp
           rw [HRA.out] at hp
           obtain ⟨hb6, v6, rfl, hl6⟩ := hp
           obtain ⟨adc, cc, rfl, _⟩ := y3_ hl6
           have HC6 := Lib.hid (q9_ (q := fun _ => True) (fun _ _ _ => trivial) _ _ hl6)
           clear hl6
           have HX6 := Lib.hid (z7_ (z4_ hb6 (z1_ _ _)) _ _ HX5.out)
           have HY6 := Lib.hid (z7_ (z4_ hb6 (z1_ _ _)) _ _ HY5.out)
           have HA6 := Lib.hid (z9_ HA5.out hb6 (z0_ HA5.out))
           have HB6 := Lib.hid (z9_ HB5.out hb6 (z0_ HB5.out))
           have HG6 := Lib.hid (y6_ HG5.out hb6)
           have hg6 := z4_ hb6 hg5
           have hs6 := hg6.size
           have fa4 := z2_ HA6.out
           have fb4 := z5_ HA6.out
           have fl4 := z0_ HA6.out
           have flx1 : A < w6.heap.size + 1 := by omega
           go_wp2_with fail
           clear fa4 fb4 fl4
           clear flx1
           have HX7 := Lib.hid (z7_ (z6_ (z1_ _ _) (.cells #[.int .u8 ka, .string (bs ta), .int .i64 na, .slice adc ksa.length cc] 25)) _ _ HX6.out)
           have HY7 := Lib.hid (z7_ (z6_ (z1_ _ _) (.cells #[.int .u8 ka, .string (bs ta), .int .i64 na, .slice adc ksa.length cc] 25)) _ _ HY6.out)
           have HC7 := Lib.hid (z7_ (z6_ (z1_ _ _) (.cells #[.int .u8 ka, .string (bs ta), .int .i64 na, .slice adc ksa.length cc] 25)) _ _ HC6.out)
           have HB7 := Lib.hid (z8_ HB6.out (.cells #[.int .u8 ka, .string (bs ta), .int .i64 na, .slice adc ksa.length cc] 25))
           have ltBCB : B < w6.heap.size := by have := z0_ HB6.out; omega
           have neBCB : B ≠ w6.heap.size := by omega
           have neCBB : w6.heap.size ≠ B := by omega
           have HA7 := Lib.hid (z8_ HA6.out (.cells #[.int .u8 ka, .string (bs ta), .int .i64 na, .slice adc ksa.length cc] 25))
           have ltACB : A < w6.heap.size := by have := z0_ HA6.out; omega
           have neACB : A ≠ w6.heap.size := by omega
           have neCBA : w6.heap.size ≠ A := by omega
           have HCB7 := Lib.hid ((z3_ w6 (.cells #[.int .u8 ka, .string (bs ta), .int .i64 na, .slice adc ksa.length cc] 25)))
           have HG7 := Lib.hid (y5_ HG6.out (.cells #[.int .u8 ka, .string (bs ta), .int .i64 na, .slice adc ksa.length cc] 25))
           have hg7 := z6_ hg6 (.cells #[.int .u8 ka, .string (bs ta), .int .i64 na, .slice adc ksa.length cc] 25)
           have geCB : w.heap.size ≤ w6.heap.size := by have := hg6.size; omega
           have gnCB : gN ≤ w6.heap.size := by have := HG6.out.size; omega
           generalize (w6.alloc (.cells #[.int .u8 ka, .string (bs ta), .int .i64 na, .slice adc ksa.length cc] 25)) = w7 at *
           generalize w6.heap.size = CB at *
           have hs7 := hg7.size
           refine (zah_ (.mk ka ta na ksa) (.mk ka ta na ksa) _ _ _ _ _ HX7.out HC7.out).mono ?_
           rintro e w8 ⟨rfl, hb8⟩
           rw [zbd_]
           have HB8 := Lib.hid (z9_ HB7.out hb8 (z0_ HB7.out))
           have HA8 := Lib.hid (z9_ HA7.out hb8 (z0_ HA7.out))
           have HCB8 := Lib.hid (z9_ HCB7.out hb8 (z0_ HCB7.out))
           have HG8 := Lib.hid (y6_ HG7.out hb8)
           have hg8 := z4_ hb8 hg7
           have hs8 := hg8.size
           have HX8 := Lib.hid (z7_ (z4_ hb8 (z1_ _ _)) _ _ HX7.out)
           have HY8 := Lib.hid (z7_ (z4_ hb8 (z1_ _ _)) _ _ HY7.out)
           have HC8 := Lib.hid (z7_ (z4_ hb8 (z1_ _ _)) _ _ HC7.out)
           go_wp2_with fail
           rcases zeu_ (k8_ v4_ q6_ s) with hs | ⟨y, hs⟩
           · skip
             have HRS := Lib.hid hs
             clear hs
             refine (zbg_ s om_ _ HG8.out).mono ?_
             intro e wr hp
             rw [HRS.out] at hp
             obtain ⟨hbr, rfl⟩ := hp
             have HGr := Lib.hid (y6_ HG8.out hbr)
             have hgr := z4_ hbr hg8
             have hsr := hgr.size
             go_wp2_with fail
             have HCCq := Lib.hid ((z3_ wr zl_))
             have HGq := Lib.hid (y5_ HGr.out zl_)
             have hgq := z6_ hgr zl_
             have geCC : w.heap.size ≤ wr.heap.size := by have := hgr.size; omega
             have gnCC : gN ≤ wr.heap.size := by have := HGr.out.size; omega
             generalize (wr.alloc zl_) = wq at *
             generalize wr.heap.size = CC at *
             have hsq := hgq.size
             refine (zak_ _ HGq.out).mono ?_
             rintro e wz ⟨rfl, hbz⟩
             have HCCz := Lib.hid (z9_ HCCq.out hbz (z0_ HCCq.out))
             have HGz := Lib.hid (y6_ HGq.out hbz)
             have hgz := z4_ hbz hgq
             have hsz := hgz.size
             go_wp2_with fail
             go_ret
             exact ⟨rfl, x0_ hgz⟩
           · skip
             obtain ⟨hsr1, hsr2⟩ := (zb4_ s y).1 hs
             have hwy : k1_ y = .tuple #[.string (bs s), .int .i64 0] := by unfold k1_; rw [if_pos hsr1, hsr2]
             have HRS := Lib.hid hs
             have HWY := Lib.hid hwy
             have HRY := Lib.hid hsr1
             clear hs hsr1 hsr2 hwy
             obtain ⟨ky, ty, ny, ksy⟩ := y
             refine (zbg_ s om_ _ HG8.out).mono ?_
             intro e wr hp
             rw [HRS.out] at hp
             obtain ⟨hbr, vr, rfl, hlr⟩ := hp
             obtain ⟨ady, cy, rfl, _⟩ := y3_ hlr
             have HCr := Lib.hid hlr
             clear hlr
             have HGr := Lib.hid (y6_ HG8.out hbr)
             have hgr := z4_ hbr hg8
             have hsr := hgr.size
             go_wp2_with fail
             have HCq := Lib.hid (z7_ (z6_ (z1_ _ _) (.cells #[.int .u8 ky, .string (bs ty), .int .i64 ny, .slice ady ksy.length cy] 25)) _ _ HCr.out)
             have HCCq := Lib.hid ((z3_ wr (.cells #[.int .u8 ky, .string (bs ty), .int .i64 ny, .slice ady ksy.length cy] 25)))
             have HGq := Lib.hid (y5_ HGr.out (.cells #[.int .u8 ky, .string (bs ty), .int .i64 ny, .slice ady ksy.length cy] 25))
             have hgq := z6_ hgr (.cells #[.int .u8 ky, .string (bs ty), .int .i64 ny, .slice ady ksy.length cy] 25)
             have geCC : w.heap.size ≤ wr.heap.size := by have := hgr.size; omega
             have gnCC : gN ≤ wr.heap.size := by have := HGr.out.size; omega
             generalize (wr.alloc (.cells #[.int .u8 ky, .string (bs ty), .int .i64 ny, .slice ady ksy.length cy] 25)) = wq at *
             generalize wr.heap.size = CC at *
             have hsq := hgq.size
             refine (zbx_ (.mk ky ty ny ksy) _ _ _ HCq.out HGq.out).mono ?_
             rintro e wu ⟨rfl, hbu⟩
             rw [HWY.out]
             have HCCu := Lib.hid (z9_ HCCq.out hbu (z0_ HCCq.out))
             have HGu := Lib.hid (y6_ HGq.out hbu)
             have hgu := z4_ hbu hgq
             have hsu := hgu.size
             have HCu := Lib.hid (z7_ (z4_ hbu (z1_ _ _)) _ _ HCq.out)
             have fa5 := z2_ HCCu.out
             have fb5 := z5_ HCCu.out
             have fl5 := z0_ HCCu.out
             go_wp2_with fail
             refine (zbf_ (.mk ky ty ny ksy) _ _ _ HCu.out HGu.out).mono ?_
             rintro e wv ⟨rfl, hbv⟩
             rw [HRY.out]
             clear fa5 fb5 fl5
             have HCCv := Lib.hid (z9_ HCCu.out hbv (z0_ HCCu.out))
             have HGv := Lib.hid (y6_ HGu.out hbv)
             have hgv := z4_ hbv hgu
             have hsv := hgv.size
             have HCv := Lib.hid (z7_ (z4_ hbv (z1_ _ _)) _ _ HCu.out)
             go_wp2_with fail
             refine (zak_ _ HGv.out).mono ?_
             rintro e wz ⟨rfl, hbz⟩
             have HCCz := Lib.hid (z9_ HCCv.out hbz (z0_ HCCv.out))
             have HGz := Lib.hid (y6_ HGv.out hbz)
             have hgz := z4_ hbz hgv
             have hsz := hgz.size
             have HCz := Lib.hid (z7_ (z4_ hbz (z1_ _ _)) _ _ HCv.out)
             go_wp2_with fail
             go_ret
             exact ⟨rfl, x0_ hgz⟩
       · skip
         have hwa : k1_ (.mk ka ta na ksa) = .tuple #[.string (bs []), .int .i64 110] := by unfold k1_; rw [if_neg ha]
         obtain ⟨yb, eb, hwb⟩ : ∃ yb eb, k1_ (.mk kb tb nb ksb) = .tuple #[.string (bs yb), .int .i64 eb] := by unfold k1_; split <;> exact ⟨_, _, rfl⟩
         have HWB := Lib.hid hwb
         have HWA := Lib.hid hwa
         clear ha hwb hwa
         have fa2 := z2_ HA3.out
         have fb2 := z5_ HA3.out
         have fl2 := z0_ HA3.out
         go_wp2_with fail
         refine (zbx_ (.mk ka ta na ksa) _ _ _ HX3.out HG3.out).mono ?_
         rintro e w4 ⟨rfl, hb4⟩
         rw [HWA.out]
         clear fa2 fb2 fl2
         have HB4 := Lib.hid (z9_ HB3.out hb4 (z0_ HB3.out))
         have HA4 := Lib.hid (z9_ HA3.out hb4 (z0_ HA3.out))
         have HG4 := Lib.hid (y6_ HG3.out hb4)
         have hg4 := z4_ hb4 hg3
         have hs4 := hg4.size
         have HX4 := Lib.hid (z7_ (z4_ hb4 (z1_ _ _)) _ _ HX3.out)
         have HY4 := Lib.hid (z7_ (z4_ hb4 (z1_ _ _)) _ _ HY3.out)
         have fa3 := z2_ HB4.out
         have fb3 := z5_ HB4.out
         have fl3 := z0_ HB4.out
         go_wp2_with fail
         refine (zbx_ (.mk kb tb nb ksb) _ _ _ HY4.out HG4.out).mono ?_
         rintro e w5 ⟨rfl, hb5⟩
         rw [HWB.out]
         clear fa3 fb3 fl3
         have HB5 := Lib.hid (z9_ HB4.out hb5 (z0_ HB4.out))
         have HA5 := Lib.hid (z9_ HA4.out hb5 (z0_ HA4.out))
         have HG5 := Lib.hid (y6_ HG4.out hb5)
         have hg5 := z4_ hb5 hg4
         have hs5 := hg5.size
         have HX5 := Lib.hid (z7_ (z4_ hb5 (z1_ _ _)) _ _ HX4.out)
         have HY5 := Lib.hid (z7_ (z4_ hb5 (z1_ _ _)) _ _ HY4.out)
         go_wp2_with fail
         rcases zeu_ (k8_ v4_ q6_ s) with hs | ⟨y, hs⟩
         · skip
           have HRS := Lib.hid hs
           clear hs
           refine (zbg_ s om_ _ HG5.out).mono ?_
           intro e wr hp
           rw [HRS.out] at hp
           obtain ⟨hbr, rfl⟩ := hp
           have HGr := Lib.hid (y6_ HG5.out hbr)
           have hgr := z4_ hbr hg5
           have hsr := hgr.size
           go_wp2_with fail
           have HCCq := Lib.hid ((z3_ wr zl_))
           have HGq := Lib.hid (y5_ HGr.out zl_)
           have hgq := z6_ hgr zl_
           have geCC : w.heap.size ≤ wr.heap.size := by have := hgr.size; omega
           have gnCC : gN ≤ wr.heap.size := by have := HGr.out.size; omega
           generalize (wr.alloc zl_) = wq at *
           generalize wr.heap.size = CC at *
           have hsq := hgq.size
           refine (zak_ _ HGq.out).mono ?_
           rintro e wz ⟨rfl, hbz⟩
           have HCCz := Lib.hid (z9_ HCCq.out hbz (z0_ HCCq.out))
           have HGz := Lib.hid (y6_ HGq.out hbz)
           have hgz := z4_ hbz hgq
           have hsz := hgz.size
           go_wp2_with fail
           go_ret
           exact ⟨rfl, x0_ hgz⟩
         · skip
           obtain ⟨hsr1, hsr2⟩ := (zb4_ s y).1 hs
           have hwy : k1_ y = .tuple #[.string (bs s), .int .i64 0] := by unfold k1_; rw [if_pos hsr1, hsr2]
           have HRS := Lib.hid hs
           have HWY := Lib.hid hwy
           have HRY := Lib.hid hsr1
           clear hs hsr1 hsr2 hwy
           obtain ⟨ky, ty, ny, ksy⟩ := y
           refine (zbg_ s om_ _ HG5.out).mono ?_
           intro e wr hp
           rw [HRS.out] at hp
           obtain ⟨hbr, vr, rfl, hlr⟩ := hp
           obtain ⟨ady, cy, rfl, _⟩ := y3_ hlr
           have HCr := Lib.hid hlr
           clear hlr
           have HGr := Lib.hid (y6_ HG5.out hbr)
           have hgr := z4_ hbr hg5
           have hsr := hgr.size
           go_wp2_with fail
           have HCq := Lib.hid (z7_ (z6_ (z1_ _ _) (.cells #[.int .u8 ky, .string (bs ty), .int .i64 ny, .slice ady ksy.length cy] 25)) _ _ HCr.out)
           have HCCq := Lib.hid ((z3_ wr (.cells #[.int .u8 ky, .string (bs ty), .int .i64 ny, .slice ady ksy.length cy] 25)))
           have HGq := Lib.hid (y5_ HGr.out (.cells #[.int .u8 ky, .string (bs ty), .int .i64 ny, .slice ady ksy.length cy] 25))
           have hgq := z6_ hgr (.cells #[.int .u8 ky, .string (bs ty), .int .i64 ny, .slice ady ksy.length cy] 25)
           have geCC : w.heap.size ≤ wr.heap.size := by have := hgr.size; omega
           have gnCC : gN ≤ wr.heap.size := by have := HGr.out.size; omega
           generalize (wr.alloc (.cells #[.int .u8 ky, .string (bs ty), .int .i64 ny, .slice ady ksy.length cy] 25)) = wq at *
           generalize wr.heap.size = CC at *
           have hsq := hgq.size
           refine (zbx_ (.mk ky ty ny ksy) _ _ _ HCq.out HGq.out).mono ?_
           rintro e wu ⟨rfl, hbu⟩
           rw [HWY.out]
           have HCCu := Lib.hid (z9_ HCCq.out hbu (z0_ HCCq.out))
           have HGu := Lib.hid (y6_ HGq.out hbu)
           have hgu := z4_ hbu hgq
           have hsu := hgu.size
           have HCu := Lib.hid (z7_ (z4_ hbu (z1_ _ _)) _ _ HCq.out)
           have fa4 := z2_ HCCu.out
           have fb4 := z5_ HCCu.out
           have fl4 := z0_ HCCu.out
           go_wp2_with fail
           refine (zbf_ (.mk ky ty ny ksy) _ _ _ HCu.out HGu.out).mono ?_
           rintro e wv ⟨rfl, hbv⟩
           rw [HRY.out]
           clear fa4 fb4 fl4
           have HCCv := Lib.hid (z9_ HCCu.out hbv (z0_ HCCu.out))
           have HGv := Lib.hid (y6_ HGu.out hbv)
           have hgv := z4_ hbv hgu
           have hsv := hgv.size
           have HCv := Lib.hid (z7_ (z4_ hbv (z1_ _ _)) _ _ HCu.out)
           go_wp2_with fail
           refine (zak_ _ HGv.out).mono ?_
           rintro e wz ⟨rfl, hbz⟩
           have HCCz := Lib.hid (z9_ HCCv.out hbz (z0_ HCCv.out))
           have HGz := Lib.hid (y6_ HGv.out hbz)
           have hgz := z4_ hbz hgv
           have hsz := hgz.size
           have HCz := Lib.hid (z7_ (z4_ hbz (z1_ _ _)) _ _ HCv.out)
           go_wp2_with fail
           go_ret
           exact ⟨rfl, x0_ hgz⟩
     · skip
       have b3 : decide (3000 < (s.length : Int)) = true := by simp; omega
       go_wp2_with fail
       go_ret
       exact ⟨rfl, x0_ hg3⟩
   · skip
     have b2 : decide (300 < z2) = true := by simp; omega
     go_wp2_with fail
     go_ret
     exact ⟨rfl, x0_ hg3⟩
 · skip
   have b1 : decide (300 < z1) = true := by simp; omega
   go_wp2_with fail
   go_ret
   exact ⟨rfl, x0_ hg2⟩
end Go.Proofs.YtiplnofaejpeoaaGreatDoor
