/- Amounts' texts: the library's words for the plain ones. -/
import Derived.Test.YtembdkodajichaaGreatDoorInvW
import Derived.Test.YtembdkodajichaaGreatDoorDigP
import Derived.Test.YtembdkodajichaaGreatDoorMTerm
import Derived.Test.YtembdkodajichaaGreatDoorBechC
import Derived.Test.YtembdkodajichaaGreatDoorDigE
import Derived.Test.YtembdkodajichaaGreatDoorByteR
import Derived.Lib.ParseIntB
import Derived.Lib.SlTrimSet
import Derived.Lib.Strings
set_option maxRecDepth 100000
set_option maxHeartbeats 4000000
set_option linter.unusedSimpArgs false
set_option linter.unusedVariables false
namespace Go.Proofs.YtembdkodajichaaGreatDoor
open Go.RowKit
theorem zcg_ (S D : Nat) (E : Int) (hE : E = (D : Int)) (h : S ≤ 4611686018427387903) : bits .and .i64 ((S : Int) / E) 31 = (S : Int) / E % 32 := by
 subst hE
 have h1 : (S : Int) / (D : Int) = ((S / D : Nat) : Int) := by simp
 have h2 : S / D ≤ S := Nat.div_le_self _ _
 rw [h1, zeI_ _ om_]
 simp
theorem zbR_ (S k : Nat) (hk : k < 7) : z1_ 32 (k + 1) (S / 2 ^ (35 - 5 * (k + 1))) = z1_ 32 k (S / 2 ^ (35 - 5 * k)) ++ [UInt8.ofNat (S / 2 ^ (35 - 5 * (k + 1)) % 32)] := by
 have := zeG_ 5 k (35 - 5 * k) S om_
 rw [show 35 - 5 * k - 5 = 35 - 5 * (k + 1) by omega] at this
 exact this
structure WdAt (w : World) (x : Inv) (l : List UInt8) (v : Value) (wr : World) : Prop where
 own : x1_ w.heap.size v l wr
 blk : wr.heap[w.heap.size]? = some (.cells (q4_ x) 31 (0, 0))
 gl : GL [] w wr
theorem zeJ_ {w wr w2 w3 : World} {x : Inv} {l o : List UInt8} {tag : UInt8} {v : Value} {ad3 : Option Addr} {c3 : Nat} (h : WdAt w x l v wr) (hb : Below wr.heap.size wr w2)
  (hg : GL v.ownBlock.toList w2 w3) (ho : x1_ w.heap.size (.slice ad3 (l ++ y5_ tag o).length c3) (l ++ y5_ tag o) w3) : WdAt w x (l ++ y5_ tag o) (.slice ad3 (l ++ y5_ tag o).length c3) w3 := by
 have hn : w.heap.size ∉ v.ownBlock.toList := by
  have := Ne.symm (v7_ h.own h.blk de_)
  simpa using this
 refine ⟨ho, x6_ (x0_ h.blk hb (z4_ h.blk)) hg hn, ?_⟩
 exact y7_ hg (y6_ hb h.gl) (fun r hr => .inr (v4_ h.own r (by simpa using hr)).1)
theorem zaX_ {w wr w2 : World} {x : Inv} {l : List UInt8} {v : Value} (h : WdAt w x l v wr) (hb : Below wr.heap.size wr w2) : WdAt w x l v w2 :=
 ⟨zdu_ h.own hb rfl, x0_ h.blk hb (z4_ h.blk), y6_ hb h.gl⟩
theorem zch_ {w wr : World} {x : Inv} {l : List UInt8} {v : Value} (h : WdAt w x l v wr) : ∀ j, wr.cell? ⟨w.heap.size, j, none⟩ = (q4_ x)[j]? := z0_ h.blk
theorem zjI_ (x : Inv) (hm : w3_ x = true) (w : World) :
  Calls Tryz.prog 38 #[invV x] w fun e w' => ∃ ad c, e = .returned (.slice ad (j1_ x).length c) ∧ x1_ w.heap.size (.slice ad (j1_ x).length c) (j1_ x) w' ∧ Below w.heap.size w w' := by
 obtain ⟨h1, h2, h3, h4, h5, h6, h7, h8, h9⟩ := zer_ hm
 have b1 : (x4_ x.hash).length ≤ 1023 := by rw [(zca_ x.hash).2.1]; omega
 have b2 : (x4_ x.payee).length ≤ 1023 := by rw [(zca_ x.payee).2.1]; omega
 have b3 : (x4_ x.memo).length ≤ 1023 := by rw [(zca_ x.memo).2.1]; omega
 have HW : Hid (j1_ x = z1_ 32 7 x.st.toNat ++ y5_ 1 (x4_ x.hash) ++ y5_ 19 (x4_ x.payee) ++ y5_ 13 (x4_ x.memo) ++ y5_ 6 (w0_ x.ex.toNat) ++ y5_ 24 (w0_ x.de.toNat)) := Lib.hid rfl
 obtain ⟨am, st, hash, payee, memo, ex, de, sig⟩ := x
 clear hm
 unfold invV
 simp only at HW h1 h2 h3 h4 h5 h6 h7 h8 h9 b1 b2 b3 ⊢
 obtain ⟨S, rfl⟩ : ∃ n : Nat, st = n := ⟨st.toNat, by omega⟩
 obtain ⟨E, rfl⟩ : ∃ n : Nat, ex = n := ⟨ex.toNat, by omega⟩
 obtain ⟨D, rfl⟩ : ∃ n : Nat, de = n := ⟨de.toNat, by omega⟩
 simp only [Int.toNat_natCast] at HW
 have hS : S < 34359738368 := by omega
 have hE : E < 34359738368 := by omega
 have hD : D < 2147483648 := by omega
 have n1 := zde_ 7 E om_
 have n2 := zde_ 7 D om_
 clear h4 h5 h6 h7 h8 h9
 go_enter Tryz.func38, Tryz.ntmps38
 go_wp2_with fail
 have HB0 : Hid (WdAt w ⟨am, S, hash, payee, memo, E, D, sig⟩ (z1_ 32 0 (S / 2 ^ (35 - 5 * 0))) (.slice none 0 0) (w.alloc (.cells #[.int .i64 am, .int .i64 S, .string (bs hash), .string (bs payee), .string (bs memo), .int .i64 E, .int .i64 D, .string (bs sig)] 31))) := Lib.hid ⟨zbN_ _ _, y8_ _ _, y2_ (y1_ _ _) _⟩
 go_loopw [2, 3] (fun wv iv wr => ∃ k : Nat, k ≤ 7 ∧ iv = .int .i64 (30 - 5 * (k : Int)) ∧ Hid (WdAt w ⟨am, S, hash, payee, memo, E, D, sig⟩ (z1_ 32 k (S / 2 ^ (35 - 5 * k))) wv wr)) (fun _ iv _ => (intOf iv + 10).toNat)
 case atStart => exact ⟨0, by omega, rfl, HB0⟩
 case round =>
  obtain ⟨k, hk, rfl, hwd⟩ := hrel
  obtain ⟨oa, oc, rfl⟩ := zaO_ hwd.out.own
  have hlk : (z1_ 32 k (S / 2 ^ (35 - 5 * k))).length = k := y9_ _ _ _
  have hfc := zch_ hwd.out
  rcases (by omega : k = 0 ∨ k = 1 ∨ k = 2 ∨ k = 3 ∨ k = 4 ∨ k = 5 ∨ k = 6 ∨ k = 7) with rfl | rfl | rfl | rfl | rfl | rfl | rfl | rfl
  · have hst := zbR_ S 0 om_
    have hx8 : ((S : Int) / 1073741824 % 32) = ((UInt8.ofNat (S / 2 ^ (35 - 5 * (0 + 1)) % 32)).toNat : Nat) := by rw [UInt8.toNat_ofNat', show 2 ^ (35 - 5 * (0 + 1)) = 1073741824 from rfl]; omega
    obtain ⟨g, cap, w2, hrun, hown2, hgr, _, _⟩ := k7_ w.heap.size _ _ (UInt8.ofNat (S / 2 ^ (35 - 5 * (0 + 1)) % 32)) ((S : Int) / 1073741824 % 32) hx8 wr _ (.inr rfl) hwd.out.own om_ hwd.out.gl.size
    rw [← hst] at hown2
    have HWD : Hid (WdAt w ⟨am, S, hash, payee, memo, E, D, sig⟩ (z1_ 32 (0 + 1) (S / 2 ^ (35 - 5 * (0 + 1)))) (.slice (some ⟨g, 0, none⟩) ((z1_ 32 0 (S / 2 ^ (35 - 5 * 0))).length + 1) cap) w2) := Lib.hid ⟨hown2, x6_ hwd.out.blk hgr (by have := Ne.symm (v7_ hwd.out.own hwd.out.blk de_); simpa using this), y7_ hgr hwd.out.gl (fun r hr => .inr (v4_ hwd.out.own r (by simpa using hr)).1)⟩
    have hand := zcg_ S 1073741824 1073741824 rfl om_
    have HRUN := Lib.hid hrun
    have f1 : wr.cell? ⟨w.heap.size, 1, none⟩ = some (.int .i64 S) := hfc 1
    have hi : (30 - 5 * ((0 : Nat) : Int)) = 30 := by omega
    rw [hi]
    simp only [hlk] at HRUN HWD ⊢
    clear hi hst hx8 hrun hown2 hgr hfc hlk HB0 hwd
    go_wp2_with (at_builtin; refine w8_ _ rfl (.tmp 8) (.tmp 15) 47 47 rfl _ _ (by simp [Act.eval, Act.put]) (by simp [Act.eval, Act.put]) HRUN.out ?_)
    exact ⟨⟨1, by omega, by first | rfl | go_num, HWD⟩, by first | (simp [intOf]; done) | (simp [intOf]; omega)⟩
  · have hst := zbR_ S 1 om_
    have hx8 : ((S : Int) / 33554432 % 32) = ((UInt8.ofNat (S / 2 ^ (35 - 5 * (1 + 1)) % 32)).toNat : Nat) := by rw [UInt8.toNat_ofNat', show 2 ^ (35 - 5 * (1 + 1)) = 33554432 from rfl]; omega
    obtain ⟨g, cap, w2, hrun, hown2, hgr, _, _⟩ := k7_ w.heap.size _ _ (UInt8.ofNat (S / 2 ^ (35 - 5 * (1 + 1)) % 32)) ((S : Int) / 33554432 % 32) hx8 wr _ (.inr rfl) hwd.out.own om_ hwd.out.gl.size
    rw [← hst] at hown2
    have HWD : Hid (WdAt w ⟨am, S, hash, payee, memo, E, D, sig⟩ (z1_ 32 (1 + 1) (S / 2 ^ (35 - 5 * (1 + 1)))) (.slice (some ⟨g, 0, none⟩) ((z1_ 32 1 (S / 2 ^ (35 - 5 * 1))).length + 1) cap) w2) := Lib.hid ⟨hown2, x6_ hwd.out.blk hgr (by have := Ne.symm (v7_ hwd.out.own hwd.out.blk de_); simpa using this), y7_ hgr hwd.out.gl (fun r hr => .inr (v4_ hwd.out.own r (by simpa using hr)).1)⟩
    have hand := zcg_ S 33554432 33554432 rfl om_
    have HRUN := Lib.hid hrun
    have f1 : wr.cell? ⟨w.heap.size, 1, none⟩ = some (.int .i64 S) := hfc 1
    have hi : (30 - 5 * ((1 : Nat) : Int)) = 25 := by omega
    rw [hi]
    simp only [hlk] at HRUN HWD ⊢
    clear hi hst hx8 hrun hown2 hgr hfc hlk HB0 hwd
    go_wp2_with (at_builtin; refine w8_ _ rfl (.tmp 8) (.tmp 15) 47 47 rfl _ _ (by simp [Act.eval, Act.put]) (by simp [Act.eval, Act.put]) HRUN.out ?_)
    exact ⟨⟨2, by omega, by first | rfl | go_num, HWD⟩, by first | (simp [intOf]; done) | (simp [intOf]; omega)⟩
  · have hst := zbR_ S 2 om_
    have hx8 : ((S : Int) / 1048576 % 32) = ((UInt8.ofNat (S / 2 ^ (35 - 5 * (2 + 1)) % 32)).toNat : Nat) := by rw [UInt8.toNat_ofNat', show 2 ^ (35 - 5 * (2 + 1)) = 1048576 from rfl]; omega
    obtain ⟨g, cap, w2, hrun, hown2, hgr, _, _⟩ := k7_ w.heap.size _ _ (UInt8.ofNat (S / 2 ^ (35 - 5 * (2 + 1)) % 32)) ((S : Int) / 1048576 % 32) hx8 wr _ (.inr rfl) hwd.out.own om_ hwd.out.gl.size
    rw [← hst] at hown2
    have HWD : Hid (WdAt w ⟨am, S, hash, payee, memo, E, D, sig⟩ (z1_ 32 (2 + 1) (S / 2 ^ (35 - 5 * (2 + 1)))) (.slice (some ⟨g, 0, none⟩) ((z1_ 32 2 (S / 2 ^ (35 - 5 * 2))).length + 1) cap) w2) := Lib.hid ⟨hown2, x6_ hwd.out.blk hgr (by have := Ne.symm (v7_ hwd.out.own hwd.out.blk de_); simpa using this), y7_ hgr hwd.out.gl (fun r hr => .inr (v4_ hwd.out.own r (by simpa using hr)).1)⟩
    have hand := zcg_ S 1048576 1048576 rfl om_
    have HRUN := Lib.hid hrun
    have f1 : wr.cell? ⟨w.heap.size, 1, none⟩ = some (.int .i64 S) := hfc 1
    have hi : (30 - 5 * ((2 : Nat) : Int)) = 20 := by omega
    rw [hi]
    simp only [hlk] at HRUN HWD ⊢
    clear hi hst hx8 hrun hown2 hgr hfc hlk HB0 hwd
    go_wp2_with (at_builtin; refine w8_ _ rfl (.tmp 8) (.tmp 15) 47 47 rfl _ _ (by simp [Act.eval, Act.put]) (by simp [Act.eval, Act.put]) HRUN.out ?_)
    exact ⟨⟨3, by omega, by first | rfl | go_num, HWD⟩, by first | (simp [intOf]; done) | (simp [intOf]; omega)⟩
  · have hst := zbR_ S 3 om_
    have hx8 : ((S : Int) / 32768 % 32) = ((UInt8.ofNat (S / 2 ^ (35 - 5 * (3 + 1)) % 32)).toNat : Nat) := by rw [UInt8.toNat_ofNat', show 2 ^ (35 - 5 * (3 + 1)) = 32768 from rfl]; omega
    obtain ⟨g, cap, w2, hrun, hown2, hgr, _, _⟩ := k7_ w.heap.size _ _ (UInt8.ofNat (S / 2 ^ (35 - 5 * (3 + 1)) % 32)) ((S : Int) / 32768 % 32) hx8 wr _ (.inr rfl) hwd.out.own om_ hwd.out.gl.size
    rw [← hst] at hown2
    have HWD : Hid (WdAt w ⟨am, S, hash, payee, memo, E, D, sig⟩ (z1_ 32 (3 + 1) (S / 2 ^ (35 - 5 * (3 + 1)))) (.slice (some ⟨g, 0, none⟩) ((z1_ 32 3 (S / 2 ^ (35 - 5 * 3))).length + 1) cap) w2) := Lib.hid ⟨hown2, x6_ hwd.out.blk hgr (by have := Ne.symm (v7_ hwd.out.own hwd.out.blk de_); simpa using this), y7_ hgr hwd.out.gl (fun r hr => .inr (v4_ hwd.out.own r (by simpa using hr)).1)⟩
    have hand := zcg_ S 32768 32768 rfl om_
    have HRUN := Lib.hid hrun
    have f1 : wr.cell? ⟨w.heap.size, 1, none⟩ = some (.int .i64 S) := hfc 1
    have hi : (30 - 5 * ((3 : Nat) : Int)) = 15 := by omega
    rw [hi]
    simp only [hlk] at HRUN HWD ⊢
    clear hi hst hx8 hrun hown2 hgr hfc hlk HB0 hwd
    go_wp2_with (at_builtin; refine w8_ _ rfl (.tmp 8) (.tmp 15) 47 47 rfl _ _ (by simp [Act.eval, Act.put]) (by simp [Act.eval, Act.put]) HRUN.out ?_)
    exact ⟨⟨4, by omega, by first | rfl | go_num, HWD⟩, by first | (simp [intOf]; done) | (simp [intOf]; omega)⟩
  · have hst := zbR_ S 4 om_
    have hx8 : ((S : Int) / 1024 % 32) = ((UInt8.ofNat (S / 2 ^ (35 - 5 * (4 + 1)) % 32)).toNat : Nat) := by rw [UInt8.toNat_ofNat', show 2 ^ (35 - 5 * (4 + 1)) = 1024 from rfl]; omega
    obtain ⟨g, cap, w2, hrun, hown2, hgr, _, _⟩ := k7_ w.heap.size _ _ (UInt8.ofNat (S / 2 ^ (35 - 5 * (4 + 1)) % 32)) ((S : Int) / 1024 % 32) hx8 wr _ (.inr rfl) hwd.out.own om_ hwd.out.gl.size
    rw [← hst] at hown2
    have HWD : Hid (WdAt w ⟨am, S, hash, payee, memo, E, D, sig⟩ (z1_ 32 (4 + 1) (S / 2 ^ (35 - 5 * (4 + 1)))) (.slice (some ⟨g, 0, none⟩) ((z1_ 32 4 (S / 2 ^ (35 - 5 * 4))).length + 1) cap) w2) := Lib.hid ⟨hown2, x6_ hwd.out.blk hgr (by have := Ne.symm (v7_ hwd.out.own hwd.out.blk de_); simpa using this), y7_ hgr hwd.out.gl (fun r hr => .inr (v4_ hwd.out.own r (by simpa using hr)).1)⟩
    have hand := zcg_ S 1024 1024 rfl om_
    have HRUN := Lib.hid hrun
    have f1 : wr.cell? ⟨w.heap.size, 1, none⟩ = some (.int .i64 S) := hfc 1
    have hi : (30 - 5 * ((4 : Nat) : Int)) = 10 := by omega
    rw [hi]
    simp only [hlk] at HRUN HWD ⊢
    clear hi hst hx8 hrun hown2 hgr hfc hlk HB0 hwd
    go_wp2_with (at_builtin; refine w8_ _ rfl (.tmp 8) (.tmp 15) 47 47 rfl _ _ (by simp [Act.eval, Act.put]) (by simp [Act.eval, Act.put]) HRUN.out ?_)
    exact ⟨⟨5, by omega, by first | rfl | go_num, HWD⟩, by first | (simp [intOf]; done) | (simp [intOf]; omega)⟩
  · have hst := zbR_ S 5 om_
    have hx8 : ((S : Int) / 32 % 32) = ((UInt8.ofNat (S / 2 ^ (35 - 5 * (5 + 1)) % 32)).toNat : Nat) := by rw [UInt8.toNat_ofNat', show 2 ^ (35 - 5 * (5 + 1)) = 32 from rfl]; omega
    obtain ⟨g, cap, w2, hrun, hown2, hgr, _, _⟩ := k7_ w.heap.size _ _ (UInt8.ofNat (S / 2 ^ (35 - 5 * (5 + 1)) % 32)) ((S : Int) / 32 % 32) hx8 wr _ (.inr rfl) hwd.out.own om_ hwd.out.gl.size
    rw [← hst] at hown2
    have HWD : Hid (WdAt w ⟨am, S, hash, payee, memo, E, D, sig⟩ (z1_ 32 (5 + 1) (S / 2 ^ (35 - 5 * (5 + 1)))) (.slice (some ⟨g, 0, none⟩) ((z1_ 32 5 (S / 2 ^ (35 - 5 * 5))).length + 1) cap) w2) := Lib.hid ⟨hown2, x6_ hwd.out.blk hgr (by have := Ne.symm (v7_ hwd.out.own hwd.out.blk de_); simpa using this), y7_ hgr hwd.out.gl (fun r hr => .inr (v4_ hwd.out.own r (by simpa using hr)).1)⟩
    have hand := zcg_ S 32 32 rfl om_
    have HRUN := Lib.hid hrun
    have f1 : wr.cell? ⟨w.heap.size, 1, none⟩ = some (.int .i64 S) := hfc 1
    have hi : (30 - 5 * ((5 : Nat) : Int)) = 5 := by omega
    rw [hi]
    simp only [hlk] at HRUN HWD ⊢
    clear hi hst hx8 hrun hown2 hgr hfc hlk HB0 hwd
    go_wp2_with (at_builtin; refine w8_ _ rfl (.tmp 8) (.tmp 15) 47 47 rfl _ _ (by simp [Act.eval, Act.put]) (by simp [Act.eval, Act.put]) HRUN.out ?_)
    exact ⟨⟨6, by omega, by first | rfl | go_num, HWD⟩, by first | (simp [intOf]; done) | (simp [intOf]; omega)⟩
  · have hst := zbR_ S 6 om_
    have hx8 : ((S : Int) % 32) = ((UInt8.ofNat (S / 2 ^ (35 - 5 * (6 + 1)) % 32)).toNat : Nat) := by rw [UInt8.toNat_ofNat', show 2 ^ (35 - 5 * (6 + 1)) = 1 from rfl]; omega
    obtain ⟨g, cap, w2, hrun, hown2, hgr, _, _⟩ := k7_ w.heap.size _ _ (UInt8.ofNat (S / 2 ^ (35 - 5 * (6 + 1)) % 32)) ((S : Int) % 32) hx8 wr _ (.inr rfl) hwd.out.own om_ hwd.out.gl.size
    rw [← hst] at hown2
    have HWD : Hid (WdAt w ⟨am, S, hash, payee, memo, E, D, sig⟩ (z1_ 32 (6 + 1) (S / 2 ^ (35 - 5 * (6 + 1)))) (.slice (some ⟨g, 0, none⟩) ((z1_ 32 6 (S / 2 ^ (35 - 5 * 6))).length + 1) cap) w2) := Lib.hid ⟨hown2, x6_ hwd.out.blk hgr (by have := Ne.symm (v7_ hwd.out.own hwd.out.blk de_); simpa using this), y7_ hgr hwd.out.gl (fun r hr => .inr (v4_ hwd.out.own r (by simpa using hr)).1)⟩
    have hand : bits .and .i64 (S : Int) 31 = (S : Int) % 32 := by rw [zeI_ S om_]; simp
    have HRUN := Lib.hid hrun
    have f1 : wr.cell? ⟨w.heap.size, 1, none⟩ = some (.int .i64 S) := hfc 1
    have hi : (30 - 5 * ((6 : Nat) : Int)) = 0 := by omega
    rw [hi]
    simp only [hlk] at HRUN HWD ⊢
    clear hi hst hx8 hrun hown2 hgr hfc hlk HB0 hwd
    go_wp2_with (at_builtin; refine w8_ _ rfl (.tmp 8) (.tmp 15) 47 47 rfl _ _ (by simp [Act.eval, Act.put]) (by simp [Act.eval, Act.put]) HRUN.out ?_)
    exact ⟨⟨7, by omega, by first | rfl | go_num, HWD⟩, by first | (simp [intOf]; done) | (simp [intOf]; omega)⟩
  · have hi : (30 - 5 * ((7 : Nat) : Int)) = -5 := by omega
    rw [hi]
    have hs0 : S / 2 ^ (35 - 5 * 7) = S := by simp
    rw [hs0] at hwd hlk
    have HA0 := hwd
    simp only [hlk] at HA0
    have L0 : (z1_ 32 7 S).length ≤ 7 := by omega
    generalize hl0 : z1_ 32 7 S = l0 at *
    clear hi hs0 hwd HB0 hfc
    have g0 : wr.cell? ⟨w.heap.size, 2, none⟩ = some (.string (bs hash)) := zch_ HA0.out 2
    go_wp2_with fail
    refine (zfJ_ hash om_ _).mono ?_
    rintro e x0 ⟨ta0, tc0, rfl, ht0, hb0⟩
    have HT0 := Lib.hid ht0
    have HBL0 := Lib.hid hb0
    clear ht0 hb0
    go_wp2_with fail
    refine (iFld w.heap.size wr.heap.size 1 1 rfl l0 (x4_ hash) _ _ x0 (zaX_ HA0.out HBL0.out).own HT0.out (fun g hg => (v4_ HA0.out.own g hg).2) om_ om_ (zaX_ HA0.out HBL0.out).gl.size).mono ?_
    rintro e y0 ⟨fa0, fc0, rfl, hf0, hg0⟩
    have HA1 := Lib.hid (zeJ_ HA0.out HBL0.out hg0 hf0)
    have L1 : (l0 ++ y5_ 1 (x4_ hash)).length ≤ 1033 := by rw [List.length_append]; unfold y5_; simp only [List.length_cons]; omega
    clear hf0 hg0 g0 HT0 HBL0
    generalize hl1 : l0 ++ y5_ 1 (x4_ hash) = l1 at *
    have g1 : y0.cell? ⟨w.heap.size, 3, none⟩ = some (.string (bs payee)) := zch_ HA1.out 3
    go_wp2_with fail
    refine (zfJ_ payee om_ _).mono ?_
    rintro e x1 ⟨ta1, tc1, rfl, ht1, hb1⟩
    have HT1 := Lib.hid ht1
    have HBL1 := Lib.hid hb1
    clear ht1 hb1
    go_wp2_with fail
    refine (iFld w.heap.size y0.heap.size 19 19 rfl l1 (x4_ payee) _ _ x1 (zaX_ HA1.out HBL1.out).own HT1.out (fun g hg => (v4_ HA1.out.own g hg).2) om_ om_ (zaX_ HA1.out HBL1.out).gl.size).mono ?_
    rintro e y1 ⟨fa1, fc1, rfl, hf1, hg1⟩
    have HA2 := Lib.hid (zeJ_ HA1.out HBL1.out hg1 hf1)
    have L2 : (l1 ++ y5_ 19 (x4_ payee)).length ≤ 2059 := by rw [List.length_append]; unfold y5_; simp only [List.length_cons]; omega
    clear hf1 hg1 g1 HT1 HBL1
    generalize hl2 : l1 ++ y5_ 19 (x4_ payee) = l2 at *
    have g2 : y1.cell? ⟨w.heap.size, 4, none⟩ = some (.string (bs memo)) := zch_ HA2.out 4
    go_wp2_with fail
    refine (zfJ_ memo om_ _).mono ?_
    rintro e x2 ⟨ta2, tc2, rfl, ht2, hb2⟩
    have HT2 := Lib.hid ht2
    have HBL2 := Lib.hid hb2
    clear ht2 hb2
    go_wp2_with fail
    refine (iFld w.heap.size y1.heap.size 13 13 rfl l2 (x4_ memo) _ _ x2 (zaX_ HA2.out HBL2.out).own HT2.out (fun g hg => (v4_ HA2.out.own g hg).2) om_ om_ (zaX_ HA2.out HBL2.out).gl.size).mono ?_
    rintro e y2 ⟨fa2, fc2, rfl, hf2, hg2⟩
    have HA3 := Lib.hid (zeJ_ HA2.out HBL2.out hg2 hf2)
    have L3 : (l2 ++ y5_ 13 (x4_ memo)).length ≤ 3085 := by rw [List.length_append]; unfold y5_; simp only [List.length_cons]; omega
    clear hf2 hg2 g2 HT2 HBL2
    generalize hl3 : l2 ++ y5_ 13 (x4_ memo) = l3 at *
    have g3 : y2.cell? ⟨w.heap.size, 5, none⟩ = some (.int .i64 E) := zch_ HA3.out 5
    go_wp2_with fail
    refine (iNum E _ om_).mono ?_
    rintro e x3 ⟨ta3, tc3, rfl, ht3, hb3⟩
    have HT3 := Lib.hid ht3
    have HBL3 := Lib.hid hb3
    clear ht3 hb3
    go_wp2_with fail
    refine (iFld w.heap.size y2.heap.size 6 6 rfl l3 (w0_ E) _ _ x3 (zaX_ HA3.out HBL3.out).own HT3.out (fun g hg => (v4_ HA3.out.own g hg).2) om_ om_ (zaX_ HA3.out HBL3.out).gl.size).mono ?_
    rintro e y3 ⟨fa3, fc3, rfl, hf3, hg3⟩
    have HA4 := Lib.hid (zeJ_ HA3.out HBL3.out hg3 hf3)
    have L4 : (l3 ++ y5_ 6 (w0_ E)).length ≤ 3095 := by rw [List.length_append]; unfold y5_; simp only [List.length_cons]; omega
    clear hf3 hg3 g3 HT3 HBL3
    generalize hl4 : l3 ++ y5_ 6 (w0_ E) = l4 at *
    have g4 : y3.cell? ⟨w.heap.size, 6, none⟩ = some (.int .i64 D) := zch_ HA4.out 6
    go_wp2_with fail
    refine (iNum D _ om_).mono ?_
    rintro e x4 ⟨ta4, tc4, rfl, ht4, hb4⟩
    have HT4 := Lib.hid ht4
    have HBL4 := Lib.hid hb4
    clear ht4 hb4
    go_wp2_with fail
    refine (iFld w.heap.size y3.heap.size 24 24 rfl l4 (w0_ D) _ _ x4 (zaX_ HA4.out HBL4.out).own HT4.out (fun g hg => (v4_ HA4.out.own g hg).2) om_ om_ (zaX_ HA4.out HBL4.out).gl.size).mono ?_
    rintro e y4 ⟨fa4, fc4, rfl, hf4, hg4⟩
    have HA5 := Lib.hid (zeJ_ HA4.out HBL4.out hg4 hf4)
    have L5 : (l4 ++ y5_ 24 (w0_ D)).length ≤ 3105 := by rw [List.length_append]; unfold y5_; simp only [List.length_cons]; omega
    clear hf4 hg4 g4 HT4 HBL4
    generalize hl5 : l4 ++ y5_ 24 (w0_ D) = l5 at *
    have HE : Hid (j1_ ⟨am, S, hash, payee, memo, E, D, sig⟩ = l5) := HW
    have hf : x1_ w.heap.size (.slice fa4 l5.length fc4) l5 y4 := HA5.out.own
    have HF := Lib.hid hf
    clear hf hl0 hl1 hl2 hl3 hl4 hl5
    go_wp2_with fail
    exact bodyPost_ret (v := .slice fa4 l5.length fc4) (by simp [results, Tryz.results38, go_sem]) rfl ⟨fa4, fc4, by rw [HE.out], by rw [HE.out]; exact HF.out, y0_ HA5.out.gl⟩
def unitC : Array Value := #[.string (bs []), .int .i64 100000000000, .string (bs [109]), .int .i64 100000000, .string (bs [117]), .int .i64 100000, .string (bs [110]), .int .i64 100]
def zcs_ (w : World) : Prop := ∀ j, j < 8 → w.cell? ⟨0, j, none⟩ = unitC[j]?
theorem zdK_ {w w' : World} {rs : List Nat} (h : zcs_ w) (hg : GL rs w w') (hr : 0 ∉ rs) : zcs_ w' := by
 intro j hj
 have h1 := h j hj
 obtain ⟨v, hv⟩ : ∃ v, unitC[j]? = some v := ⟨_, Array.getElem?_eq_getElem (by simpa [unitC] using hj)⟩
 rw [hv] at h1 ⊢
 have hlt := World.block_lt_of_cell? _ _ h1
 simp only [World.cell?, hg.block _ hlt hr] at h1 ⊢
 exact h1
theorem zo2_ {m : Int} (h : m < 0 ∨ 2100000000000000000 < m) : k3_ m = [] ∧ zah_ m = 40 := by
 constructor
 · unfold k3_; rw [if_pos (by unfold k6_; omega)]
 · unfold zah_; rw [if_pos (by unfold k6_; omega)]
theorem zg9_ {m : Int} (h0 : 0 ≤ m) (h1 : m ≤ 2100000000000000000) : zah_ m = 0 := by unfold zah_; rw [if_neg (by unfold k6_; omega)]
theorem zo3_ {m : Nat} (h0 : 0 < m) (h1 : m ≤ 2100000000000000000) : k3_ (m : Int) = k8_ m unitL := by
 unfold k3_
 rw [if_neg (by unfold k6_; omega)]
 rfl
theorem zeK_ (N : Int) (k : Nat) (hN : N = k) (hk : k ≤ 9223372036854775807) (w : World) (hG : GOk w) :
  Calls Tryz.prog 27 #[.int .i64 N, .int .i64 10] w fun e w' => e = .returned (.string (bs (Lib.decDigits k))) ∧ Below w.heap.size w w' := by
 subst hN
 exact (zoj_ k om_ om_ w hG).mono fun e w' ⟨h1, h2⟩ => ⟨by rw [h1, Int.toNat_natCast], h2⟩
theorem Tryz.sizeUnit : (Tryz.prog.info? 53).map (·.size) = some 2 := by kernel_rfl
theorem zaC_ (w : World) (i : Nat) (nm : List UInt8) (u : Int) (hi : i < 4) (h0 : unitC[2 * i]? = some (.string (bs nm))) (h1 : unitC[2 * i + 1]? = some (.int .i64 u)) : (Instr.index 54 (.agg unitC) (.int .i64 (i : Int))).run Tryz.prog w = .ok (.agg #[.string (bs nm), .int .i64 u]) w := by
 have h2 : (0 : Int) ≤ (i : Int) ∧ (i : Int) < 4 := by omega
 obtain ⟨j, hj, hjs⟩ := Option.map_eq_some_iff.1 Tryz.sizeUnit
 have hext : unitC.extract (i * 2) (i * 2 + 2) = #[.string (bs nm), .int .i64 u] := by
  rcases (by omega : i = 0 ∨ i = 1 ∨ i = 2 ∨ i = 3) with rfl | rfl | rfl | rfl
  all_goals
   simp [unitC] at h0 h1
   simp [unitC]
   exact ⟨h0, h1⟩
 simp [Instr.index, run_underlying Tryz.underlying54, asIntOf, sizeOf, typeInfo, hj, hjs, part, h2]
 rw [if_pos hi, hext]
theorem zfK_ {n u : Nat} {nm : List UInt8} {r : List (List UInt8 × Nat)} (h : n % u = 0) : k8_ n ((nm, u) :: r) = Lib.decDigits (n / u) ++ nm := by rw [k8_, if_pos h]
theorem zfL_ {n u : Nat} {nm : List UInt8} {r : List (List UInt8 × Nat)} (h : ¬ n % u = 0) : k8_ n ((nm, u) :: r) = k8_ n r := by rw [k8_, if_neg h]
theorem zjJ_ (m : Int) (hm0 : -9223372036854775808 ≤ m) (hm1 : m ≤ 9223372036854775807) (w : World) (hG : GOk w) (hU : zcs_ w) :
  Calls Tryz.prog 10 #[.int .i64 m] w fun e w' => e = .returned (.tuple #[.string (bs (k3_ m)), .int .i64 (zah_ m)]) ∧ Below w.heap.size w w' := by
 by_cases hbad : m < 0 ∨ 2100000000000000000 < m
 · have HA := Lib.hid (zo2_ hbad)
   rcases hbad with h | h
   · go_enter Tryz.func10, Tryz.ntmps10
     go_wp2_with fail
     exact bodyPost_ret (v := .tuple #[.string (bs []), .int .i64 40]) (by simp [results, Tryz.results10, go_sem]) rfl ⟨by rw [HA.out.1, HA.out.2], bl_⟩
   · go_enter Tryz.func10, Tryz.ntmps10
     go_wp2_with fail
     exact bodyPost_ret (v := .tuple #[.string (bs []), .int .i64 40]) (by simp [results, Tryz.results10, go_sem]) rfl ⟨by rw [HA.out.1, HA.out.2], bl_⟩
 · by_cases hz : m = 0
   · subst hz
     go_enter Tryz.func10, Tryz.ntmps10
     go_wp2_with fail
     go_ret2
     exact ⟨rfl, bl_⟩
   · obtain ⟨n, rfl⟩ : ∃ n : Nat, m = n := ⟨m.toNat, by omega⟩
     have hn0 : 0 < n := by omega
     have hn1 : n ≤ 2100000000000000000 := by omega
     have HE := Lib.hid (zg9_ om_ om_ : zah_ (n : Int) = 0)
     have HT := Lib.hid (zo3_ hn0 hn1)
     have p0 : (0 : Int) < n := by omega
     have p1 : (n : Int) ≤ 2100000000000000000 := by omega
     have u0 := hU 0 om_
     have u1 := hU 1 om_
     have u2 := hU 2 om_
     have u3 := hU 3 om_
     have u4 := hU 4 om_
     have u5 := hU 5 om_
     have u6 := hU 6 om_
     have u7 := hU 7 om_
     have HG := Lib.hid hG
     clear hbad hz hU hG hm0 hm1
     simp only [unitC, List.getElem?_toArray] at u0 u1 u2 u3 u4 u5 u6 u7
     go_enter Tryz.func10, Tryz.ntmps10
     go_wp2_with fail
     go_loopw [5, 17] (fun _ iv wr => ∃ i : Nat, i ≤ 4 ∧ iv = .int .i64 i ∧ Hid (k8_ n unitL = k8_ n (unitL.drop i)) ∧ Hid (GL [] w wr)) (fun _ iv _ => 4 - (intOf iv).toNat)
     case atStart => exact ⟨0, by omega, rfl, Lib.hid rfl, Lib.hid (y1_ _ _)⟩
     case round =>
      obtain ⟨i, hi, rfl, hgo, hgr⟩ := hrel
      have HGR : Hid (GOk wr) := Lib.hid (za8_ HG.out hgr.out si_)
      have HGR : Hid (GOk wr) := Lib.hid (za8_ HG.out hgr.out si_)
      rcases (by omega : i = 0 ∨ i = 1 ∨ i = 2 ∨ i = 3 ∨ i = 4) with rfl | rfl | rfl | rfl | rfl
      · have hix : (Instr.index 54 (.agg #[.string (bs []), .int .i64 100000000000, .string (bs [109]), .int .i64 100000000, .string (bs [117]), .int .i64 100000, .string (bs [110]), .int .i64 100]) (.int .i64 0)).run Tryz.prog wr = .ok (.agg #[.string (bs []), .int .i64 100000000000]) wr := zaC_ wr 0 _ _ om_ rfl rfl
        have HN := Lib.hid (y8_ wr (.cells #[.string (bs []), .int .i64 100000000000] 53))
        have HG2 : Hid (GL [] w (wr.alloc (.cells #[.string (bs []), .int .i64 100000000000] 53))) := Lib.hid (y2_ hgr.out _)
        by_cases hd : n % 100000000000 = 0
        · have HTX : Hid (k3_ (n : Int) = Lib.decDigits (n / 100000000000) ++ []) := Lib.hid (by rw [HT.out, hgo.out]; exact zfK_ hd)
          have hdl : (Lib.decDigits (n / 100000000000)).length ≤ 20 := zba_ _ om_
          rw [List.append_nil] at HTX
          go_wp2_with fail
          go_region_with (go_at_call 27; refine (zeK_ _ (n / 100000000000) (by rw [IntKind.wrap_i64]; omega) om_ _ (zdU_ (zbP_ HGR.out _))).mono ?_; rintro e w2 ⟨rfl, hb2⟩; have k0 := z0_ (x0_ (w1_ HN.out) hb2 (z4_ (w1_ HN.out))) 0)
          all_goals go_wp2_with fail
          all_goals exact bodyPost_ret (v := .tuple #[.string (bs (Lib.decDigits (n / 100000000000))), .int .i64 0]) (by simp [results, Tryz.results10, go_sem]) rfl ⟨by rw [HTX.out, HE.out], y0_ (y6_ hb2 (x9_ HG2.out))⟩
        · have HTX : Hid (k8_ n unitL = k8_ n (unitL.drop 1)) := Lib.hid (by rw [hgo.out]; exact zfL_ hd)
          go_wp2_with fail
          exact ⟨⟨1, by omega, by first | rfl | (simp; done), HTX, HG2⟩, by first | (simp [intOf]; done) | (simp [intOf]; omega)⟩
      · have hix : (Instr.index 54 (.agg #[.string (bs []), .int .i64 100000000000, .string (bs [109]), .int .i64 100000000, .string (bs [117]), .int .i64 100000, .string (bs [110]), .int .i64 100]) (.int .i64 1)).run Tryz.prog wr = .ok (.agg #[.string (bs [109]), .int .i64 100000000]) wr := zaC_ wr 1 _ _ om_ rfl rfl
        have HN := Lib.hid (y8_ wr (.cells #[.string (bs [109]), .int .i64 100000000] 53))
        have HG2 : Hid (GL [] w (wr.alloc (.cells #[.string (bs [109]), .int .i64 100000000] 53))) := Lib.hid (y2_ hgr.out _)
        by_cases hd : n % 100000000 = 0
        · have HTX : Hid (k3_ (n : Int) = Lib.decDigits (n / 100000000) ++ [109]) := Lib.hid (by rw [HT.out, hgo.out]; exact zfK_ hd)
          have hdl : (Lib.decDigits (n / 100000000)).length ≤ 20 := zba_ _ om_
          go_wp2_with fail
          go_region_with (go_at_call 27; refine (zeK_ _ (n / 100000000) (by rw [IntKind.wrap_i64]; omega) om_ _ (zdU_ (zbP_ HGR.out _))).mono ?_; rintro e w2 ⟨rfl, hb2⟩; have k0 := z0_ (x0_ (w1_ HN.out) hb2 (z4_ (w1_ HN.out))) 0)
          all_goals go_wp2_with fail
          all_goals exact bodyPost_ret (v := .tuple #[.string (bs (Lib.decDigits (n / 100000000) ++ [109])), .int .i64 0]) (by simp [results, Tryz.results10, go_sem]) rfl ⟨by rw [HTX.out, HE.out], y0_ (y6_ hb2 (x9_ HG2.out))⟩
        · have HTX : Hid (k8_ n unitL = k8_ n (unitL.drop 2)) := Lib.hid (by rw [hgo.out]; exact zfL_ hd)
          go_wp2_with fail
          exact ⟨⟨2, by omega, by first | rfl | (simp; done), HTX, HG2⟩, by first | (simp [intOf]; done) | (simp [intOf]; omega)⟩
      · have hix : (Instr.index 54 (.agg #[.string (bs []), .int .i64 100000000000, .string (bs [109]), .int .i64 100000000, .string (bs [117]), .int .i64 100000, .string (bs [110]), .int .i64 100]) (.int .i64 2)).run Tryz.prog wr = .ok (.agg #[.string (bs [117]), .int .i64 100000]) wr := zaC_ wr 2 _ _ om_ rfl rfl
        have HN := Lib.hid (y8_ wr (.cells #[.string (bs [117]), .int .i64 100000] 53))
        have HG2 : Hid (GL [] w (wr.alloc (.cells #[.string (bs [117]), .int .i64 100000] 53))) := Lib.hid (y2_ hgr.out _)
        by_cases hd : n % 100000 = 0
        · have HTX : Hid (k3_ (n : Int) = Lib.decDigits (n / 100000) ++ [117]) := Lib.hid (by rw [HT.out, hgo.out]; exact zfK_ hd)
          have hdl : (Lib.decDigits (n / 100000)).length ≤ 20 := zba_ _ om_
          go_wp2_with fail
          go_region_with (go_at_call 27; refine (zeK_ _ (n / 100000) (by rw [IntKind.wrap_i64]; omega) om_ _ (zdU_ (zbP_ HGR.out _))).mono ?_; rintro e w2 ⟨rfl, hb2⟩; have k0 := z0_ (x0_ (w1_ HN.out) hb2 (z4_ (w1_ HN.out))) 0)
          all_goals go_wp2_with fail
          all_goals exact bodyPost_ret (v := .tuple #[.string (bs (Lib.decDigits (n / 100000) ++ [117])), .int .i64 0]) (by simp [results, Tryz.results10, go_sem]) rfl ⟨by rw [HTX.out, HE.out], y0_ (y6_ hb2 (x9_ HG2.out))⟩
        · have HTX : Hid (k8_ n unitL = k8_ n (unitL.drop 3)) := Lib.hid (by rw [hgo.out]; exact zfL_ hd)
          go_wp2_with fail
          exact ⟨⟨3, by omega, by first | rfl | (simp; done), HTX, HG2⟩, by first | (simp [intOf]; done) | (simp [intOf]; omega)⟩
      · have hix : (Instr.index 54 (.agg #[.string (bs []), .int .i64 100000000000, .string (bs [109]), .int .i64 100000000, .string (bs [117]), .int .i64 100000, .string (bs [110]), .int .i64 100]) (.int .i64 3)).run Tryz.prog wr = .ok (.agg #[.string (bs [110]), .int .i64 100]) wr := zaC_ wr 3 _ _ om_ rfl rfl
        have HN := Lib.hid (y8_ wr (.cells #[.string (bs [110]), .int .i64 100] 53))
        have HG2 : Hid (GL [] w (wr.alloc (.cells #[.string (bs [110]), .int .i64 100] 53))) := Lib.hid (y2_ hgr.out _)
        by_cases hd : n % 100 = 0
        · have HTX : Hid (k3_ (n : Int) = Lib.decDigits (n / 100) ++ [110]) := Lib.hid (by rw [HT.out, hgo.out]; exact zfK_ hd)
          have hdl : (Lib.decDigits (n / 100)).length ≤ 20 := zba_ _ om_
          go_wp2_with fail
          go_region_with (go_at_call 27; refine (zeK_ _ (n / 100) (by rw [IntKind.wrap_i64]; omega) om_ _ (zdU_ (zbP_ HGR.out _))).mono ?_; rintro e w2 ⟨rfl, hb2⟩; have k0 := z0_ (x0_ (w1_ HN.out) hb2 (z4_ (w1_ HN.out))) 0)
          all_goals go_wp2_with fail
          all_goals exact bodyPost_ret (v := .tuple #[.string (bs (Lib.decDigits (n / 100) ++ [110])), .int .i64 0]) (by simp [results, Tryz.results10, go_sem]) rfl ⟨by rw [HTX.out, HE.out], y0_ (y6_ hb2 (x9_ HG2.out))⟩
        · have HTX : Hid (k8_ n unitL = k8_ n (unitL.drop 4)) := Lib.hid (by rw [hgo.out]; exact zfL_ hd)
          go_wp2_with fail
          exact ⟨⟨4, by omega, by first | rfl | (simp; done), HTX, HG2⟩, by first | (simp [intOf]; done) | (simp [intOf]; omega)⟩
      · have HTX : Hid (k3_ (n : Int) = Lib.decDigits n ++ [48, 112]) := Lib.hid (by rw [HT.out, hgo.out]; rfl)
        have hdl : (Lib.decDigits n).length ≤ 20 := zba_ _ om_
        clear hgo
        go_wp2_with fail
        refine (zeK_ _ n rfl om_ _ HGR.out).mono ?_
        rintro e w2 ⟨rfl, hb2⟩
        go_wp2_with fail
        exact bodyPost_ret (v := .tuple #[.string (bs (Lib.decDigits n ++ [48, 112])), .int .i64 0]) (by simp [results, Tryz.results10, go_sem]) rfl ⟨by rw [HTX.out, HE.out], y0_ (y6_ hb2 hgr.out)⟩
structure IOk (w : World) : Prop where
 g : GOk w
 tab : zcz_ w
 units : zcs_ w
theorem zct_ {w w' : World} (h : IOk w) (hg : GL [] w w') : IOk w' := ⟨za8_ h.g hg si_, zcd_ h.tab hg si_, zdK_ h.units hg si_⟩
theorem zd5_ {w w' : World} {rs : List Nat} (h : IOk w) (hg : GL rs w w') (hr : ∀ r ∈ rs, gN ≤ r) : IOk w' := by
 have h1 : 7 < gN := by decide
 have h2 : 0 < gN := by decide
 exact ⟨za8_ h.g hg hr, zcd_ h.tab hg (fun hm => by have := hr _ hm; omega), zdK_ h.units hg (fun hm => by have := hr _ hm; omega)⟩
theorem zbt_ {w w' : World} (h : IOk w) (hg : Below w.heap.size w w') : IOk w' := zct_ h (y6_ hg (y1_ _ _))
theorem zha_ (m : Int) : (k3_ m).length ≤ 79 := by
 have h := zik_ ⟨m, 0, [], [], [], 0, 0, []⟩
 unfold zbI_ hrpI at h
 simp only [Bool.and_eq_true, decide_eq_true_eq, List.length_append] at h
 have : lnsw.length = 4 := rfl
 omega
def zci_ (x : Inv) : List UInt8 := if zao_ x = 0 then bodyT x else []
theorem zjK_ {x : Inv} (h : zah_ x.am ≠ 0) : zao_ x = 40 ∧ zci_ x = [] ∧ zah_ x.am = 40 := by
 have h1 : zah_ x.am = 40 := by
  unfold zah_ at h ⊢
  split
  · rfl
  · rename_i hc; rw [if_neg hc] at h; exact absurd rfl h
 have e : zao_ x = 40 := by unfold zao_; rw [if_pos h]
 exact ⟨e, by unfold zci_; rw [e, if_neg om_], h1⟩
theorem zjL_ {x : Inv} (h : zah_ x.am = 0) (hm : w3_ x = false) : zao_ x = 70 ∧ zci_ x = [] := by
 have e : zao_ x = 70 := by unfold zao_; rw [if_neg (by simp [h]), if_pos hm]
 exact ⟨e, by unfold zci_; rw [e, if_neg om_]⟩
theorem zeL_ {x : Inv} (h : zah_ x.am = 0) (hm : w3_ x = true) : zao_ x = 0 ∧ zci_ x = bodyT x := by
 have e : zao_ x = 0 := by unfold zao_; rw [if_neg (by simp [h]), if_neg (by simp [hm])]
 exact ⟨e, by unfold zci_; rw [if_pos e]⟩
theorem zjM_ (l : List UInt8) : za7_ (hexT l) = (bodyT.textL0 (hexT l), 0) := by
 unfold za7_ bodyT.textL0
 rw [if_neg (by rw [zep_]; omega)]
theorem zhb_ (x : Inv) (hx : zcr_ x) (w : World) (hI : IOk w) :
  Calls Tryz.prog 15 #[invV x] w fun e w' => e = .returned (.tuple #[.string (bs (zci_ x)), .int .i64 (zao_ x)]) ∧ Below w.heap.size w w' := by
 have HX := Lib.hid hx
 have HI := Lib.hid hI
 have ham0 := hx.am0
 have ham1 := hx.am1
 have hal := zha_ x.am
 clear hx hI
 unfold invV
 go_enter Tryz.func15, Tryz.ntmps15
 go_wp2_with fail
 have HB1 := Lib.hid (y8_ w (.cells #[.int .i64 x.am, .int .i64 x.st, .string (bs x.hash), .string (bs x.payee), .string (bs x.memo), .int .i64 x.ex, .int .i64 x.de, .string (bs x.sig)] 31))
 have HI1 : Hid (IOk (w.alloc (.cells #[.int .i64 x.am, .int .i64 x.st, .string (bs x.hash), .string (bs x.payee), .string (bs x.memo), .int .i64 x.ex, .int .i64 x.de, .string (bs x.sig)] 31))) := Lib.hid (zct_ HI.out (y2_ (y1_ _ _) _))
 have HL1 : Hid (GL [] w (w.alloc (.cells #[.int .i64 x.am, .int .i64 x.st, .string (bs x.hash), .string (bs x.payee), .string (bs x.memo), .int .i64 x.ex, .int .i64 x.de, .string (bs x.sig)] 31))) := Lib.hid (y2_ (y1_ _ _) _)
 generalize w.alloc (.cells #[.int .i64 x.am, .int .i64 x.st, .string (bs x.hash), .string (bs x.payee), .string (bs x.memo), .int .i64 x.ex, .int .i64 x.de, .string (bs x.sig)] 31) = w1 at *
 refine (zjJ_ x.am ham0 ham1 _ HI1.out.g HI1.out.units).mono ?_
 rintro e w2 ⟨rfl, hb2⟩
 have HB2 := Lib.hid (x0_ HB1.out hb2 (z4_ HB1.out))
 have HI2 := Lib.hid (zbt_ HI1.out hb2)
 have HL2 : Hid (GL [] w w2) := Lib.hid (y6_ hb2 HL1.out)
 clear hb2 HB1 HI1 HL1 ham0 ham1
 by_cases hE : zah_ x.am = 0
 · have HE := Lib.hid hE
   rw [hE]
   clear hE
   have f2 := z0_ HB2.out
   go_wp2_with fail
   refine (iMay x HX.out _ HI2.out.g).mono ?_
   rintro e w3 ⟨rfl, hb3⟩
   have HB3 := Lib.hid (x0_ HB2.out hb3 (z4_ HB2.out))
   have HI3 := Lib.hid (zbt_ HI2.out hb3)
   have HL3 : Hid (GL [] w w3) := Lib.hid (y6_ hb3 HL2.out)
   clear hb3 HB2 HI2 HL2 f2
   cases hm : w3_ x with
   | false =>
     have HR := Lib.hid (zjL_ HE.out hm)
     clear hm
     go_wp2_with fail
     exact bodyPost_ret (v := .tuple #[.string (bs []), .int .i64 70]) (by simp [results, Tryz.results15, go_sem]) rfl ⟨by rw [HR.out.1, HR.out.2], y0_ HL3.out⟩
   | true =>
     have HR := Lib.hid (zeL_ HE.out hm)
     have HM := Lib.hid hm
     clear hm
     obtain ⟨c4, w4, hcv, hin4, hg4⟩ := zfA_ 9 Tryz.underlying9 (108 :: 110 :: 115 :: 119 :: k3_ x.am) w3 so_
     have HB4 := Lib.hid (x6_ HB3.out hg4 si_)
     have HI4 := Lib.hid (zct_ HI3.out hg4)
     have HL4 : Hid (GL [] w w4) := Lib.hid (y7_ hg4 HL3.out si_)
     have HC4 := Lib.hid hin4
     have HW := Lib.hid (zfh_ x HM.out).2
     clear hin4 hg4
     have f4 := z0_ HB4.out
     have HBT : Hid (bodyT x = bodyT.textL0 (hexT ((108 :: 110 :: 115 :: 119 :: k3_ x.am) ++ j1_ x))) := Lib.hid rfl
     generalize k3_ x.am = am at *
     go_wp2_with fail
     refine (zjI_ x HM.out _).mono ?_
     rintro e w5 ⟨ad5, c5, rfl, hown5, hb5⟩
     have HI5 := Lib.hid (zbt_ HI4.out hb5)
     have HL5 : Hid (GL [] w w5) := Lib.hid (y6_ hb5 HL4.out)
     obtain ⟨ad6, c6, w6, hrun, hin6, G, hG, hg6⟩ := zjo_ _ _ _ (j1_ x) w5 (zjm_ HC4.out hb5) (by unfold j1_ y5_; simp; omega) (zaT_ hown5).1 (by have := HW.out; simp; omega)
     obtain rfl : w3.heap.size = G := by
      simp [Value.ownBlock] at hG
      exact hG
     have HI6 : Hid (IOk w6) := Lib.hid (zd5_ HI5.out hg6 (fun r hr => by simp at hr; subst hr; exact HI3.out.g.size))
     have HL6 : Hid (GL [] w w6) := Lib.hid (y7_ hg6 HL5.out (fun r hr => .inr (by simp at hr; subst hr; exact HL3.out.size)))
     have HIN6 := Lib.hid hin6
     simp only [List.length_cons] at hrun
     have HRUN := Lib.hid hrun
     clear hown5 hb5 hrun hin6 hG hg6 f4
     go_wp2_with (at_builtin; refine w8_ _ rfl (.tmp 20) (.tmp 22) 47 47 rfl _ _ (by simp [Act.eval, Act.put]) (by simp [Act.eval, Act.put]) HRUN.out ?_)
     refine (dHex _ _ _ HIN6.out HI6.out.tab (by have := HW.out; simp; omega)).mono ?_
     rintro e w7 ⟨rfl, hb7⟩
     have HI7 := Lib.hid (zbt_ HI6.out hb7)
     have HL7 : Hid (GL [] w w7) := Lib.hid (y6_ hb7 HL6.out)
     have HTX := Lib.hid (zjM_ ((108 :: 110 :: 115 :: 119 :: am) ++ j1_ x))
     have htl := zep_ ((108 :: 110 :: 115 :: 119 :: am) ++ j1_ x)
     generalize hexT ((108 :: 110 :: 115 :: 119 :: am) ++ j1_ x) = hx at *
     clear hb7
     go_wp2_with fail
     refine (zok_ hx om_ _ HI7.out.g).mono ?_
     rintro e w8 ⟨rfl, hb8⟩
     rw [HTX.out]
     have HF : Hid (Below w.heap.size w w8) := Lib.hid (y0_ (y6_ hb8 HL7.out))
     clear hb8
     go_wp2_with fail
     exact bodyPost_ret (v := .tuple #[.string (bs (bodyT.textL0 hx)), .int .i64 0]) (by simp [results, Tryz.results15, go_sem]) rfl ⟨by rw [HR.out.1, HR.out.2, HBT.out], HF.out⟩
 · have HR := Lib.hid (zjK_ hE)
   have HE40 : zah_ x.am = 40 := HR.out.2.2
   rw [HE40]
   clear hE HE40
   go_wp2_with fail
   exact bodyPost_ret (v := .tuple #[.string (bs []), .int .i64 40]) (by simp [results, Tryz.results15, go_sem]) rfl ⟨by rw [HR.out.1, HR.out.2.1], y0_ HL2.out⟩
theorem zdm_ {w : World} {a : Addr} {v : Value} (h : w.cell? a = some v) (o : Obj) : (w.alloc o).cell? a = some v := by
 rw [World.cell?_alloc_some _ _ _ (by rw [h]; rfl)]; exact h
theorem zhc_ (p m s : List UInt8) (hs : s.length ≤ 9000000000000000000) (w : World) (hG : GOk w) :
  Calls Tryz.prog 43 #[.string (bs p), .string (bs m), .string (bs s)] w fun e w' => e = .returned (.bool (q1_ p m s)) ∧ Below w.heap.size w w' := by
 have HG := Lib.hid hG
 clear hG
 cases hr : rt s with
 | none =>
   have H : Hid (q1_ p m s = false) := by show q1_ p m s = false; unfold q1_; rw [hr]
   have HR := Lib.hid hr
   clear hr
   go_enter Tryz.func43, Tryz.ntmps43
   go_wp2_with fail
   refine (zdF_ s hs _ HG.out).mono ?_
   rintro e w1 hp
   rw [HR.out] at hp
   obtain ⟨rfl, hb1⟩ := hp
   go_wp2_with fail
   go_ret
   exact ⟨by first | (rw [H.out]; done) | (rw [H.out]; rfl), bl_⟩
 | some x =>
   by_cases ho : x.op.toNat = 83
   · obtain ⟨a, b, hk, ha, hb, _⟩ := zh8_ hr (by simp [arity, ← UInt8.toNat_inj, ho])
     have HV : Hid (q1_ p m s = (b == m && w4_ a == p)) := by
      show q1_ p m s = _
      unfold q1_
      rw [hr]
      simp [ho, hk]
     have HKS := Lib.hid hk
     have HR := Lib.hid hr
     have b1 : (((x.op.toNat : Nat) : Int) == 83) = true := by simp [ho]
     clear hr ho hk hb
     cases hbm : (b == m) with
     | false =>
       have H : Hid (q1_ p m s = false) := by show q1_ p m s = false; rw [HV.out, hbm]; rfl
       clear HV
       go_enter Tryz.func43, Tryz.ntmps43
       go_wp2_with fail
       refine (zdF_ s hs _ HG.out).mono ?_
       rintro e w1 hp
       rw [HR.out] at hp
       obtain ⟨ad, kn, kc, rfl, hown, hb1⟩ := hp
       rw [HKS.out] at hown
       obtain ⟨g, cap, hv, hgb, hgw, hcap, hcap2, hcell⟩ := zbv_ hown si_
       injection hv with hv1 hv2 hv3
       subst hv1 hv2 hv3
       have c0 := zdm_ (hcell 0 (.string (bs a)) rfl) (.cells #[.int .u8 x.op.toNat, .int .i64 (q6_ x), .string (bs x.text), .slice (some ⟨g, 0, none⟩) 2 kc] 98)
       have c1 := zdm_ (hcell 1 (.string (bs b)) rfl) (.cells #[.int .u8 x.op.toNat, .int .i64 (q6_ x), .string (bs x.text), .slice (some ⟨g, 0, none⟩) 2 kc] 98)
       have HG1 := Lib.hid (zbP_ (zcq_ HG.out hb1) (.cells #[.int .u8 x.op.toNat, .int .i64 (q6_ x), .string (bs x.text), .slice (some ⟨g, 0, none⟩) 2 kc] 98))
       have hb2 : Below w.heap.size w (w1.alloc (.cells #[.int .u8 x.op.toNat, .int .i64 (q6_ x), .string (bs x.text), .slice (some ⟨g, 0, none⟩) 2 kc] 98)) := bl_
       clear hcell hown
       go_wp2_with fail
       go_ret
       exact ⟨by first | (rw [H.out]; done) | (rw [H.out]; rfl), bl_⟩
     | true =>
       obtain rfl : b = m := by simpa using hbm
       clear hbm
       have H : Hid (q1_ p b s = (w4_ a == p)) := by show q1_ p b s = _; rw [HV.out]; simp
       clear HV
       go_enter Tryz.func43, Tryz.ntmps43
       go_wp2_with fail
       refine (zdF_ s hs _ HG.out).mono ?_
       rintro e w1 hp
       rw [HR.out] at hp
       obtain ⟨ad, kn, kc, rfl, hown, hb1⟩ := hp
       rw [HKS.out] at hown
       obtain ⟨g, cap, hv, hgb, hgw, hcap, hcap2, hcell⟩ := zbv_ hown si_
       injection hv with hv1 hv2 hv3
       subst hv1 hv2 hv3
       have c0 := zdm_ (hcell 0 (.string (bs a)) rfl) (.cells #[.int .u8 x.op.toNat, .int .i64 (q6_ x), .string (bs x.text), .slice (some ⟨g, 0, none⟩) 2 kc] 98)
       have c1 := zdm_ (hcell 1 (.string (bs b)) rfl) (.cells #[.int .u8 x.op.toNat, .int .i64 (q6_ x), .string (bs x.text), .slice (some ⟨g, 0, none⟩) 2 kc] 98)
       have HG1 := Lib.hid (zbP_ (zcq_ HG.out hb1) (.cells #[.int .u8 x.op.toNat, .int .i64 (q6_ x), .string (bs x.text), .slice (some ⟨g, 0, none⟩) 2 kc] 98))
       have hb2 : Below w.heap.size w (w1.alloc (.cells #[.int .u8 x.op.toNat, .int .i64 (q6_ x), .string (bs x.text), .slice (some ⟨g, 0, none⟩) 2 kc] 98)) := bl_
       clear hcell hown
       go_wp2_with fail
       refine (tKey a ha _ HG1.out).mono ?_
       rintro e w2 ⟨rfl, hb3⟩
       go_wp2_with fail
       go_ret
       exact ⟨by rw [H.out]; first | rfl | (congr 3; rw [Bool.eq_iff_iff]; simp), bl_⟩
   · have H : Hid (q1_ p m s = false) := by show q1_ p m s = false; unfold q1_; rw [hr]; simp [ho]
     have HR := Lib.hid hr
     have b1 : (((x.op.toNat : Nat) : Int) == 83) = false := by simp; omega
     clear hr ho
     go_enter Tryz.func43, Tryz.ntmps43
     go_wp2_with fail
     refine (zdF_ s hs _ HG.out).mono ?_
     rintro e w1 hp
     rw [HR.out] at hp
     obtain ⟨ad, kn, kc, rfl, hown, hb1⟩ := hp
     clear hown
     go_wp2_with fail
     go_ret
     exact ⟨by first | (rw [H.out]; done) | (rw [H.out]; rfl), bl_⟩
def zc0_ (x : Inv) : List UInt8 := if zbe_ x = 0 then zby_ x else []
theorem zo4_ {x : Inv} (h : zao_ x ≠ 0) : zbe_ x = zao_ x ∧ zc0_ x = [] := by
 have e : zbe_ x = zao_ x := by unfold zbe_; rw [if_pos h]
 exact ⟨e, by unfold zc0_; rw [e, if_neg h]⟩
theorem zjN_ {x : Inv} (h : zao_ x = 0) (hs : 639 < x.sig.length ∨ q1_ x.payee (bodyT x) x.sig = false) : zbe_ x = 71 ∧ zc0_ x = [] := by
 have e : zbe_ x = 71 := by unfold zbe_; rw [if_neg (by simp [h]), if_pos hs]
 exact ⟨e, by unfold zc0_; rw [e, if_neg om_]⟩
theorem zo5_ {x : Inv} (h : zao_ x = 0) (hs : x.sig.length ≤ 639) (hv : q1_ x.payee (bodyT x) x.sig = true) : zbe_ x = 0 ∧ zc0_ x = zby_ x ∧ zah_ x.am = 0 ∧ w3_ x = true ∧ encR (hrpI x) (allW x) = zby_ x ∧ encE (hrpI x) (allW x) = 0 := by
 have e : zbe_ x = 0 := by unfold zbe_; rw [if_neg (by simp [h]), if_neg (by simp [hv]; omega)]
 obtain ⟨h1, h2, h3, h4⟩ := zgw_ x e
 have e2 := zil_ x h2 hs
 exact ⟨e, by unfold zc0_; rw [if_pos e], h1, h2, by unfold encR; rw [if_pos e2]; rfl, e2⟩
theorem zo6_ (x : Inv) : zao_ x = 0 ∧ zci_ x = bodyT x ∨ (zao_ x = 40 ∨ zao_ x = 70) ∧ zci_ x = [] := by
 by_cases h : zao_ x = 0
 · exact .inl ⟨h, by unfold zci_; rw [if_pos h]⟩
 · refine .inr ⟨?_, by unfold zci_; rw [if_neg h]⟩
   unfold zao_ at h ⊢
   split
   · exact .inl rfl
   · split
     · exact .inr rfl
     · rename_i h1 h2; rw [if_neg h1, if_neg h2] at h; exact absurd rfl h
theorem zo7_ {x : Inv} {B : Nat} {w : World} (h : w.heap[B]? = some (.cells #[.int .i64 x.am, .int .i64 x.st, .string (bs x.hash), .string (bs x.payee), .string (bs x.memo), .int .i64 x.ex, .int .i64 x.de, .string (bs x.sig)] 31 (0, 0))) :
  w.cell? ⟨B, 0, none⟩ = some (.int .i64 x.am) ∧ w.cell? ⟨B, 1, none⟩ = some (.int .i64 x.st) ∧ w.cell? ⟨B, 2, none⟩ = some (.string (bs x.hash)) ∧ w.cell? ⟨B, 3, none⟩ = some (.string (bs x.payee)) ∧ w.cell? ⟨B, 4, none⟩ = some (.string (bs x.memo)) ∧ w.cell? ⟨B, 5, none⟩ = some (.int .i64 x.ex) ∧ w.cell? ⟨B, 6, none⟩ = some (.int .i64 x.de) ∧ w.cell? ⟨B, 7, none⟩ = some (.string (bs x.sig)) :=
 ⟨z0_ h 0, z0_ h 1, z0_ h 2, z0_ h 3, z0_ h 4, z0_ h 5, z0_ h 6, z0_ h 7⟩
theorem zo8_ (x : Inv) (hx : zcr_ x) (w : World) (hI : IOk w) :
  Calls Tryz.prog 17 #[invV x] w fun e w' => e = .returned (.tuple #[.string (bs (zc0_ x)), .int .i64 (zbe_ x)]) ∧ Below w.heap.size w w' := by
 have HX := Lib.hid hx
 have HI := Lib.hid hI
 have hal := zha_ x.am
 have hsl := hx.sig
 clear hx hI
 unfold invV
 go_enter Tryz.func17, Tryz.ntmps17
 go_wp2_with fail
 have HB1 := Lib.hid (y8_ w (.cells #[.int .i64 x.am, .int .i64 x.st, .string (bs x.hash), .string (bs x.payee), .string (bs x.memo), .int .i64 x.ex, .int .i64 x.de, .string (bs x.sig)] 31))
 have HI1 : Hid (IOk (w.alloc (.cells #[.int .i64 x.am, .int .i64 x.st, .string (bs x.hash), .string (bs x.payee), .string (bs x.memo), .int .i64 x.ex, .int .i64 x.de, .string (bs x.sig)] 31))) := Lib.hid (zct_ HI.out (y2_ (y1_ _ _) _))
 have HL1 : Hid (GL [] w (w.alloc (.cells #[.int .i64 x.am, .int .i64 x.st, .string (bs x.hash), .string (bs x.payee), .string (bs x.memo), .int .i64 x.ex, .int .i64 x.de, .string (bs x.sig)] 31))) := Lib.hid (y2_ (y1_ _ _) _)
 generalize w.alloc (.cells #[.int .i64 x.am, .int .i64 x.st, .string (bs x.hash), .string (bs x.payee), .string (bs x.memo), .int .i64 x.ex, .int .i64 x.de, .string (bs x.sig)] 31) = w1 at *
 refine (zhb_ x HX.out _ HI1.out).mono ?_
 rintro e w2 ⟨rfl, hb2⟩
 have HB2 := Lib.hid (x0_ HB1.out hb2 (z4_ HB1.out))
 have HI2 := Lib.hid (zbt_ HI1.out hb2)
 have HL2 : Hid (GL [] w w2) := Lib.hid (y6_ hb2 HL1.out)
 clear hb2 HB1 HI1 HL1
 rcases zo6_ x with ⟨hE, hR⟩ | ⟨hE, hR⟩
 · rw [hE, hR]
   have HE := Lib.hid hE
   clear hE hR
   have f2 := z0_ HB2.out
   by_cases hs : x.sig.length ≤ 639
   · have hs1 : (x.sig.length : Int) ≤ 639 := by omega
     cases hv : q1_ x.payee (bodyT x) x.sig with
     | false =>
       have HR := Lib.hid (zjN_ HE.out (.inr hv))
       have HV := Lib.hid hv
       clear hv
       generalize bodyT x = bt at *
       go_wp2_with fail
       refine (zhc_ x.payee bt x.sig om_ _ HI2.out.g).mono ?_
       rintro e w3 ⟨rfl, hb3⟩
       rw [HV.out]
       have HL3 : Hid (GL [] w w3) := Lib.hid (y6_ hb3 HL2.out)
       clear hb3
       go_wp2_with fail
       exact bodyPost_ret (v := .tuple #[.string (bs []), .int .i64 71]) (by simp [results, Tryz.results17, go_sem]) rfl ⟨by rw [HR.out.1, HR.out.2], y0_ HL3.out⟩
     | true =>
       have HR := Lib.hid (zo5_ HE.out hs hv)
       have HV := Lib.hid hv
       have hwl := (zfh_ x HR.out.2.2.2.1).2
       have htl : (x4_ x.sig).length ≤ 1023 := by rw [(zca_ x.sig).2.1]; omega
       have ham0 := HX.out.am0
       have ham1 := HX.out.am1
       clear hv
       generalize bodyT x = bt at *
       go_wp2_with fail
       refine (zhc_ x.payee bt x.sig om_ _ HI2.out.g).mono ?_
       rintro e w3 ⟨rfl, hb3⟩
       rw [HV.out]
       have HB3 := Lib.hid (x0_ HB2.out hb3 (z4_ HB2.out))
       have HI3 := Lib.hid (zbt_ HI2.out hb3)
       have HL3 : Hid (GL [] w w3) := Lib.hid (y6_ hb3 HL2.out)
       clear hb3 HB2 HI2 HL2 f2
       have f3 := z0_ HB3.out
       go_wp2_with fail
       refine (zjJ_ x.am ham0 ham1 _ HI3.out.g HI3.out.units).mono ?_
       rintro e w4 ⟨rfl, hb4⟩
       have HB4 := Lib.hid (x0_ HB3.out hb4 (z4_ HB3.out))
       have HL4 : Hid (GL [] w w4) := Lib.hid (y6_ hb4 HL3.out)
       clear hb4 HB3 HI3 HL3 f3
       have f4 := z0_ HB4.out
       have HH : Hid (hrpI x = 108 :: 110 :: 115 :: 119 :: k3_ x.am) := Lib.hid rfl
       have HALL : Hid (allW x = j1_ x ++ y5_ 16 (x4_ x.sig)) := Lib.hid rfl
       have HAL := Lib.hid (zgv_ x HR.out.2.2.2.1 hs).2
       generalize k3_ x.am = am at *
       go_wp2_with fail
       clear f4
       have hcc : ¬ (9223372036854775807 < 4 + am.length) := by omega
       go_region_held3 (fun w' => w'.cell? ⟨w.heap.size, 0, none⟩ = some (.int .i64 x.am) ∧ w'.cell? ⟨w.heap.size, 1, none⟩ = some (.int .i64 x.st) ∧ w'.cell? ⟨w.heap.size, 2, none⟩ = some (.string (bs x.hash)) ∧ w'.cell? ⟨w.heap.size, 3, none⟩ = some (.string (bs x.payee)) ∧ w'.cell? ⟨w.heap.size, 4, none⟩ = some (.string (bs x.memo)) ∧ w'.cell? ⟨w.heap.size, 5, none⟩ = some (.int .i64 x.ex) ∧ w'.cell? ⟨w.heap.size, 6, none⟩ = some (.int .i64 x.de) ∧ w'.cell? ⟨w.heap.size, 7, none⟩ = some (.string (bs x.sig))) (exact zo7_ (by (repeat' (first | (with_reducible refine Hid.out ?_; with_reducible assumption) | with_reducible refine x3_ ?_ _ | with_reducible refine za0_ ?_ _ | with_reducible refine w1_ ?_))))
        (first
        | (go_at_call 38; refine (zjI_ x HR.out.2.2.2.1 _).mono ?_; rintro e wa ⟨aw, cw, rfl, how, hba⟩; (have HOW := Lib.hid how); (have HBA := Lib.hid hba); (have HBKa : Hid (wa.heap[w.heap.size]? = some (.cells #[.int .i64 x.am, .int .i64 x.st, .string (bs x.hash), .string (bs x.payee), .string (bs x.memo), .int .i64 x.ex, .int .i64 x.de, .string (bs x.sig)] 31 (0, 0))) := Lib.hid (x0_ (by first | exact HB4.out | exact w1_ HB4.out | exact za0_ HB4.out _) hba (z4_ HB4.out))); clear how hba)
        | (go_at_call 46; refine (zfJ_ x.sig om_ _).mono ?_; rintro e wb ⟨at2, ct, rfl, hot, hbb⟩; (have HOT := Lib.hid hot); (have HBB := Lib.hid hbb); (have HBKb : Hid (wb.heap[w.heap.size]? = some (.cells #[.int .i64 x.am, .int .i64 x.st, .string (bs x.hash), .string (bs x.payee), .string (bs x.memo), .int .i64 x.ex, .int .i64 x.de, .string (bs x.sig)] 31 (0, 0))) := Lib.hid (x0_ (by first | exact HBKa.out | exact w1_ HBKa.out | exact za0_ HBKa.out _) hbb (z4_ HBKa.out))); clear hot hbb)
        | (go_at_call 45; refine (iFld w4.heap.size wa.heap.size 16 16 rfl (j1_ x) (x4_ x.sig) _ _ wb (zdu_ HOW.out HBB.out rfl) HOT.out (fun g hg => (v4_ HOW.out g hg).2) om_ htl (Nat.le_trans HBA.out.size HBB.out.size)).mono ?_; rintro e wc ⟨af, cf, rfl, hof, hgf⟩; rw [← HALL.out] at hof ⊢; (have HOF := Lib.hid hof); (have HGF := Lib.hid hgf); (have HBKc := Lib.hid (x6_ (w := wb) HBKb.out hgf (by have := Ne.symm (v7_ HOW.out HBKa.out de_); simpa using this))); clear hof hgf)
        | (go_at_call 44; rw [← HH.out]; refine (zoD_ (hrpI x) (allW x) _ wc (zaT_ HOF.out).1 (by rw [HH.out]; simp; omega) (by have := HAL.out; omega)).mono ?_; rintro e wd ⟨rfl, hbd⟩; rw [HR.out.2.2.2.2.1, HR.out.2.2.2.2.2]; (have HBKd : Hid (wd.heap[w.heap.size]? = some (.cells #[.int .i64 x.am, .int .i64 x.st, .string (bs x.hash), .string (bs x.payee), .string (bs x.memo), .int .i64 x.ex, .int .i64 x.de, .string (bs x.sig)] 31 (0, 0))) := Lib.hid (x0_ (by first | exact HBKc.out | exact w1_ HBKc.out | exact za0_ HBKc.out _) hbd (z4_ HBKc.out))); (have HBD := Lib.hid hbd); clear hbd))
       all_goals go_wp2_with fail
       all_goals exact bodyPost_ret (v := .tuple #[.string (bs (zby_ x)), .int .i64 0]) (by simp [results, Tryz.results17, go_sem]) rfl ⟨by rw [HR.out.1, HR.out.2.1], y0_ (y6_ HBD.out (y7_ HGF.out (y6_ HBB.out (y6_ HBA.out (by first | exact HL4.out | exact x9_ HL4.out | exact zeZ_ HL4.out _))) (fun r hr => .inr (Nat.le_trans HL4.out.size (v4_ HOW.out r (by simpa using hr)).1))))⟩
   · have hs1 : (639 : Int) < x.sig.length := by omega
     have HR := Lib.hid (zjN_ HE.out (.inl om_))
     clear hs
     generalize bodyT x = bt at *
     go_wp2_with fail
     exact bodyPost_ret (v := .tuple #[.string (bs []), .int .i64 71]) (by simp [results, Tryz.results17, go_sem]) rfl ⟨by rw [HR.out.1, HR.out.2], y0_ HL2.out⟩
 · have HR := Lib.hid (zo4_ (x := x) om_)
   rw [hR]
   clear hR
   rcases hE with hE | hE
   · have HE := Lib.hid hE
     rw [hE]
     clear hE
     go_wp2_with fail
     exact bodyPost_ret (v := .tuple #[.string (bs []), .int .i64 40]) (by simp [results, Tryz.results17, go_sem]) rfl ⟨by rw [HR.out.1, HR.out.2, HE.out], y0_ HL2.out⟩
   · have HE := Lib.hid hE
     rw [hE]
     clear hE
     go_wp2_with fail
     exact bodyPost_ret (v := .tuple #[.string (bs []), .int .i64 70]) (by simp [results, Tryz.results17, go_sem]) rfl ⟨by rw [HR.out.1, HR.out.2, HE.out], y0_ HL2.out⟩
theorem zhd_ {p : UInt8 → Prop} (h : ∀ c : Fin 256, p (UInt8.ofNat c.val)) (c : UInt8) : p c := by
 have := h ⟨c.toNat, c.toNat_lt⟩
 simpa using this
theorem zo9_ (c : UInt8) : [109, 117, 110, (112 : UInt8)].contains c = nmB c := zhd_ (p := fun c => [109, 117, 110, (112 : UInt8)].contains c = nmB c) (by decide +kernel) c
theorem zpa_ (c : UInt8) : [48, 49, 50, 51, 52, 53, 54, 55, 56, (57 : UInt8)].contains c = x7_ c := zhd_ (p := fun c => [48, 49, 50, 51, 52, 53, 54, 55, 56, (57 : UInt8)].contains c = x7_ c) (by decide +kernel) c
theorem zpb_ (s : List UInt8) : Lib.trimRightS s [109, 117, 110, 112] = k1_ s := by
 unfold Lib.trimRightS k1_
 congr 2
 funext c
 exact zo9_ c
theorem zhe_ {p : UInt8 → Bool} : ∀ (l : List UInt8), l.dropWhile p = [] ↔ ∀ x ∈ l, p x = true
 | [] => by simp
 | a :: r => by
   rw [List.dropWhile_cons]
   cases h : p a with
   | true => simp [h, zhe_ r]
   | false => simp [h]
theorem zjO_ (d : List UInt8) : (Lib.trimS d [48, 49, 50, 51, 52, 53, 54, 55, 56, 57] = []) = (d.all x7_ = true) := by
 have e : (fun c => [48, 49, 50, 51, 52, 53, 54, 55, 56, (57 : UInt8)].contains c) = x7_ := funext zpa_
 unfold Lib.trimS Lib.trimLeftS Lib.trimRightS
 rw [e, eq_iff_iff, zhe_]
 constructor
 · intro h
   have hc : d = (d.reverse.dropWhile x7_).reverse ++ (d.reverse.takeWhile x7_).reverse := by
    rw [← List.reverse_append, List.takeWhile_append_dropWhile, List.reverse_reverse]
   rw [List.all_eq_true]
   intro x hx
   rw [hc] at hx
   rcases List.mem_append.1 hx with hx | hx
   · exact h x hx
   · exact List.all_eq_true.1 (List.all_takeWhile (p := x7_) (l := d.reverse)) x (List.mem_reverse.1 hx)
 · intro h x hx
   have h2 : d.reverse.dropWhile x7_ = [] := (zhe_ _).2 fun y hy => List.all_eq_true.1 h y (List.mem_reverse.1 hy)
   rw [h2] at hx
   cases hx
def decA (a : Nat) (l : List UInt8) : Nat := l.foldl (fun n c => n * 10 + (c.toNat - 48)) a
theorem zhf_ : ∀ (l : List UInt8) (a : Nat), a ≤ decA a l
 | [], a => Nat.le_refl _
 | c :: r, a => by
   have := zhf_ r (a * 10 + (c.toNat - 48))
   show a ≤ decA (a * 10 + (c.toNat - 48)) r
   omega
theorem zjP_ : ∀ (l : List UInt8) (a : Nat), l.all x7_ = true → a ≤ 18446744073709551615 → Lib.parseUintM 18446744073709551615 a l = if decA a l ≤ 18446744073709551615 then .ok (decA a l) else .range
 | [], a, _, ha => by
   show Lib.NumEnd.ok a = _
   rw [if_pos (show decA a [] ≤ _ from ha)]
   rfl
 | c :: r, a, h, ha => by
   rw [List.all_cons, Bool.and_eq_true] at h
   have hc : 48 ≤ c.toNat ∧ c.toNat ≤ 57 := by simpa [x7_] using h.1
   have hg := zhf_ r (a * 10 + (c.toNat - 48))
   have e : decA a (c :: r) = decA (a * 10 + (c.toNat - 48)) r := rfl
   rw [Lib.parseUintM, if_pos hc, e]
   split
   · rw [if_neg om_]
   · split
     · rw [if_neg om_]
     · exact zjP_ r _ h.2 om_
theorem zpc_ (d : List UInt8) (h : d.all x7_ = true) (h0 : d ≠ []) : Lib.parseIntB 64 d = if x2_ d ≤ 9223372036854775807 then .ok (x2_ d : Nat) else .range := by
 cases d with
 | nil => exact absurd rfl h0
 | cons c r =>
   have hc : 48 ≤ c.toNat ∧ c.toNat ≤ 57 := by
    rw [List.all_cons, Bool.and_eq_true] at h
    simpa [x7_] using h.1
   have hp := zjP_ (c :: r) 0 h om_
   have e : decA 0 (c :: r) = x2_ (c :: r) := rfl
   rw [e] at hp
   unfold Lib.parseIntB
   simp only
   rw [if_neg om_]
   unfold Lib.parseUintB
   rw [if_neg h0, show 2 ^ 64 - 1 = 18446744073709551615 by decide, hp]
   have h45 : ¬ c.toNat = 45 := by omega
   by_cases h1 : x2_ (c :: r) ≤ 18446744073709551615
   · rw [if_pos h1]
     simp only [h45, not_false_eq_true, true_and, false_and, if_false]
     by_cases h2 : x2_ (c :: r) ≤ 9223372036854775807
     · rw [if_pos h2, if_neg om_]
     · rw [if_neg h2, if_pos om_]
   · rw [if_neg h1, if_neg om_]
theorem zpd_ (d : List UInt8) (h : zar_ d [48] = true) : d.take (d.length - 1) = d.dropLast := by rw [List.dropLast_eq_take]
theorem zpe_ (s : List UInt8) : (k1_ s).length ≤ s.length := by
 obtain ⟨nm, h, _⟩ := zgj_ s
 have := congrArg List.length h
 rw [List.length_append] at this
 omega
theorem zpf_ (s : List UInt8) (h : (s.drop (k1_ s).length).length ≤ 1) : s.drop (k1_ s).length = [] ∨ s.drop (k1_ s).length = [109] ∨ s.drop (k1_ s).length = [117] ∨ s.drop (k1_ s).length = [110] ∨ s.drop (k1_ s).length = [112] := by
 obtain ⟨nm, e, hn⟩ := zgj_ s
 have hd : s.drop (k1_ s).length = nm := by
  have := congrArg (List.drop (k1_ s).length) e
  rw [List.drop_left] at this
  exact this
 rw [hd] at h ⊢
 match nm, h with
 | [], _ => exact .inl rfl
 | [c], _ =>
   have := hn c si_
   unfold nmB at this
   simp only [Bool.or_eq_true, beq_iff_eq] at this
   rcases this with ((h | h) | h) | h <;> subst h <;> simp
end Go.Proofs.YtembdkodajichaaGreatDoor
