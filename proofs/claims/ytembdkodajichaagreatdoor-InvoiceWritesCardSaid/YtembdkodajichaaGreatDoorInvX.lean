/- The program's invoices: an invoice's words. -/
import Derived.Test.YtembdkodajichaaGreatDoorInvW
import Derived.Test.YtembdkodajichaaGreatDoorInvM
set_option maxRecDepth 100000
set_option maxHeartbeats 4000000
set_option linter.unusedSimpArgs false
set_option linter.unusedVariables false
namespace Go.Proofs.YtembdkodajichaaGreatDoor
open Go.RowKit
theorem and31_div (S D : Nat) (E : Int) (hE : E = (D : Int)) (h : S ≤ 4611686018427387903) : bits .and .i64 ((S : Int) / E) 31 = (S : Int) / E % 32 := by
 subst hE
 have h1 : (S : Int) / (D : Int) = ((S / D : Nat) : Int) := by simp
 have h2 : S / D ≤ S := Nat.div_le_self _ _
 rw [h1, and31_i64 _ om_]
 simp
theorem dig_step (S k : Nat) (hk : k < 7) : digB 32 (k + 1) (S / 2 ^ (35 - 5 * (k + 1))) = digB 32 k (S / 2 ^ (35 - 5 * k)) ++ [UInt8.ofNat (S / 2 ^ (35 - 5 * (k + 1)) % 32)] := by
 have := digB_step 5 k (35 - 5 * k) S om_
 rw [show 35 - 5 * k - 5 = 35 - 5 * (k + 1) by omega] at this
 exact this
structure WdAt (w : World) (x : Inv) (l : List UInt8) (v : Value) (wr : World) : Prop where
 own : OwnB w.heap.size v l wr
 blk : wr.heap[w.heap.size]? = some (.cells (invC x) 31 (0, 0))
 gl : GL [] w wr
theorem wd_fld {w wr w2 w3 : World} {x : Inv} {l o : List UInt8} {tag : UInt8} {v : Value} {ad3 : Option Addr} {c3 : Nat} (h : WdAt w x l v wr) (hb : Below wr.heap.size wr w2)
  (hg : GL v.ownBlock.toList w2 w3) (ho : OwnB w.heap.size (.slice ad3 (l ++ fieldW tag o).length c3) (l ++ fieldW tag o) w3) : WdAt w x (l ++ fieldW tag o) (.slice ad3 (l ++ fieldW tag o).length c3) w3 := by
 have hn : w.heap.size ∉ v.ownBlock.toList := by
  have := Ne.symm (own_ne h.own h.blk de_)
  simpa using this
 refine ⟨ho, blk_gl (blk_below h.blk hb (blk_lt h.blk)) hg hn, ?_⟩
 exact gl_step hg (gl_below hb h.gl) (fun r hr => .inr (ownB_blk h.own r (by simpa using hr)).1)
theorem wd_below {w wr w2 : World} {x : Inv} {l : List UInt8} {v : Value} (h : WdAt w x l v wr) (hb : Below wr.heap.size wr w2) : WdAt w x l v w2 :=
 ⟨own_below h.own hb rfl, blk_below h.blk hb (blk_lt h.blk), gl_below hb h.gl⟩
theorem wd_cells {w wr : World} {x : Inv} {l : List UInt8} {v : Value} (h : WdAt w x l v wr) : ∀ j, wr.cell? ⟨w.heap.size, j, none⟩ = (invC x)[j]? := blk_cell h.blk
theorem iWords (x : Inv) (hm : mayI x = true) (w : World) :
  Calls Tryz.prog 38 #[invV x] w fun e w' => ∃ ad c, e = .returned (.slice ad (wordsI x).length c) ∧ OwnB w.heap.size (.slice ad (wordsI x).length c) (wordsI x) w' ∧ Below w.heap.size w w' := by
 obtain ⟨h1, h2, h3, h4, h5, h6, h7, h8, h9⟩ := may_facts hm
 have b1 : (textW x.hash).length ≤ 1023 := by rw [(textW_back x.hash).2.1]; omega
 have b2 : (textW x.payee).length ≤ 1023 := by rw [(textW_back x.payee).2.1]; omega
 have b3 : (textW x.memo).length ≤ 1023 := by rw [(textW_back x.memo).2.1]; omega
 have HW : Hid (wordsI x = digB 32 7 x.st.toNat ++ fieldW 1 (textW x.hash) ++ fieldW 19 (textW x.payee) ++ fieldW 13 (textW x.memo) ++ fieldW 6 (numW x.ex.toNat) ++ fieldW 24 (numW x.de.toNat)) := Lib.hid rfl
 obtain ⟨am, st, hash, payee, memo, ex, de, sig⟩ := x
 clear hm
 unfold invV
 simp only at HW h1 h2 h3 h4 h5 h6 h7 h8 h9 b1 b2 b3 ⊢
 obtain ⟨S, rfl⟩ : ∃ n : Nat, st = n := ⟨st.toNat, by omega⟩
 obtain ⟨E, rfl⟩ : ∃ n : Nat, ex = n := ⟨ex.toNat, by omega⟩
 obtain ⟨D, rfl⟩ : ∃ n : Nat, de = n := ⟨de.toNat, by omega⟩
 simp only [Int.toNat_natCast] at HW
 have hS : S < 34359738368 := by omega
 have hE : E < 34359738368 := by omega
 have hD : D < 2147483648 := by omega
 have n1 := numW_len 7 E om_
 have n2 := numW_len 7 D om_
 clear h4 h5 h6 h7 h8 h9
 go_enter Tryz.func38, Tryz.ntmps38
 go_wp2_with fail
 have HB0 : Hid (WdAt w ⟨am, S, hash, payee, memo, E, D, sig⟩ (digB 32 0 (S / 2 ^ (35 - 5 * 0))) (.slice none 0 0) (w.alloc (.cells #[.int .i64 am, .int .i64 S, .string (bs hash), .string (bs payee), .string (bs memo), .int .i64 E, .int .i64 D, .string (bs sig)] 31))) := Lib.hid ⟨ownB_nil _ _, blk_new _ _, gl_alloc (gl_refl _ _) _⟩
 go_loopw [2, 3] (fun wv iv wr => ∃ k : Nat, k ≤ 7 ∧ iv = .int .i64 (30 - 5 * (k : Int)) ∧ Hid (WdAt w ⟨am, S, hash, payee, memo, E, D, sig⟩ (digB 32 k (S / 2 ^ (35 - 5 * k))) wv wr)) (fun _ iv _ => (intOf iv + 10).toNat)
 case atStart => exact ⟨0, by omega, rfl, HB0⟩
 case round =>
  obtain ⟨k, hk, rfl, hwd⟩ := hrel
  obtain ⟨oa, oc, rfl⟩ := ownB_form hwd.out.own
  have hlk : (digB 32 k (S / 2 ^ (35 - 5 * k))).length = k := digB_len _ _ _
  have hfc := wd_cells hwd.out
  rcases (by omega : k = 0 ∨ k = 1 ∨ k = 2 ∨ k = 3 ∨ k = 4 ∨ k = 5 ∨ k = 6 ∨ k = 7) with rfl | rfl | rfl | rfl | rfl | rfl | rfl | rfl
  · have hst := dig_step S 0 om_
    have hx8 : ((S : Int) / 1073741824 % 32) = ((UInt8.ofNat (S / 2 ^ (35 - 5 * (0 + 1)) % 32)).toNat : Nat) := by rw [UInt8.toNat_ofNat', show 2 ^ (35 - 5 * (0 + 1)) = 1073741824 from rfl]; omega
    obtain ⟨g, cap, w2, hrun, hown2, hgr, _, _⟩ := run_appB1 w.heap.size _ _ (UInt8.ofNat (S / 2 ^ (35 - 5 * (0 + 1)) % 32)) ((S : Int) / 1073741824 % 32) hx8 wr _ (.inr rfl) hwd.out.own om_ hwd.out.gl.size
    rw [← hst] at hown2
    have HWD : Hid (WdAt w ⟨am, S, hash, payee, memo, E, D, sig⟩ (digB 32 (0 + 1) (S / 2 ^ (35 - 5 * (0 + 1)))) (.slice (some ⟨g, 0, none⟩) ((digB 32 0 (S / 2 ^ (35 - 5 * 0))).length + 1) cap) w2) := Lib.hid ⟨hown2, blk_gl hwd.out.blk hgr (by have := Ne.symm (own_ne hwd.out.own hwd.out.blk de_); simpa using this), gl_step hgr hwd.out.gl (fun r hr => .inr (ownB_blk hwd.out.own r (by simpa using hr)).1)⟩
    have hand := and31_div S 1073741824 1073741824 rfl om_
    have HRUN := Lib.hid hrun
    have f1 : wr.cell? ⟨w.heap.size, 1, none⟩ = some (.int .i64 S) := hfc 1
    have hi : (30 - 5 * ((0 : Nat) : Int)) = 30 := by omega
    rw [hi]
    simp only [hlk] at HRUN HWD ⊢
    clear hi hst hx8 hrun hown2 hgr hfc hlk HB0 hwd
    go_wp2_with (at_builtin; refine wpList_append_run _ rfl (.tmp 8) (.tmp 15) 47 47 rfl _ _ (by simp [Act.eval, Act.put]) (by simp [Act.eval, Act.put]) HRUN.out ?_)
    exact ⟨⟨1, by omega, by first | rfl | go_num, HWD⟩, by first | (simp [intOf]; done) | (simp [intOf]; omega)⟩
  · have hst := dig_step S 1 om_
    have hx8 : ((S : Int) / 33554432 % 32) = ((UInt8.ofNat (S / 2 ^ (35 - 5 * (1 + 1)) % 32)).toNat : Nat) := by rw [UInt8.toNat_ofNat', show 2 ^ (35 - 5 * (1 + 1)) = 33554432 from rfl]; omega
    obtain ⟨g, cap, w2, hrun, hown2, hgr, _, _⟩ := run_appB1 w.heap.size _ _ (UInt8.ofNat (S / 2 ^ (35 - 5 * (1 + 1)) % 32)) ((S : Int) / 33554432 % 32) hx8 wr _ (.inr rfl) hwd.out.own om_ hwd.out.gl.size
    rw [← hst] at hown2
    have HWD : Hid (WdAt w ⟨am, S, hash, payee, memo, E, D, sig⟩ (digB 32 (1 + 1) (S / 2 ^ (35 - 5 * (1 + 1)))) (.slice (some ⟨g, 0, none⟩) ((digB 32 1 (S / 2 ^ (35 - 5 * 1))).length + 1) cap) w2) := Lib.hid ⟨hown2, blk_gl hwd.out.blk hgr (by have := Ne.symm (own_ne hwd.out.own hwd.out.blk de_); simpa using this), gl_step hgr hwd.out.gl (fun r hr => .inr (ownB_blk hwd.out.own r (by simpa using hr)).1)⟩
    have hand := and31_div S 33554432 33554432 rfl om_
    have HRUN := Lib.hid hrun
    have f1 : wr.cell? ⟨w.heap.size, 1, none⟩ = some (.int .i64 S) := hfc 1
    have hi : (30 - 5 * ((1 : Nat) : Int)) = 25 := by omega
    rw [hi]
    simp only [hlk] at HRUN HWD ⊢
    clear hi hst hx8 hrun hown2 hgr hfc hlk HB0 hwd
    go_wp2_with (at_builtin; refine wpList_append_run _ rfl (.tmp 8) (.tmp 15) 47 47 rfl _ _ (by simp [Act.eval, Act.put]) (by simp [Act.eval, Act.put]) HRUN.out ?_)
    exact ⟨⟨2, by omega, by first | rfl | go_num, HWD⟩, by first | (simp [intOf]; done) | (simp [intOf]; omega)⟩
  · have hst := dig_step S 2 om_
    have hx8 : ((S : Int) / 1048576 % 32) = ((UInt8.ofNat (S / 2 ^ (35 - 5 * (2 + 1)) % 32)).toNat : Nat) := by rw [UInt8.toNat_ofNat', show 2 ^ (35 - 5 * (2 + 1)) = 1048576 from rfl]; omega
    obtain ⟨g, cap, w2, hrun, hown2, hgr, _, _⟩ := run_appB1 w.heap.size _ _ (UInt8.ofNat (S / 2 ^ (35 - 5 * (2 + 1)) % 32)) ((S : Int) / 1048576 % 32) hx8 wr _ (.inr rfl) hwd.out.own om_ hwd.out.gl.size
    rw [← hst] at hown2
    have HWD : Hid (WdAt w ⟨am, S, hash, payee, memo, E, D, sig⟩ (digB 32 (2 + 1) (S / 2 ^ (35 - 5 * (2 + 1)))) (.slice (some ⟨g, 0, none⟩) ((digB 32 2 (S / 2 ^ (35 - 5 * 2))).length + 1) cap) w2) := Lib.hid ⟨hown2, blk_gl hwd.out.blk hgr (by have := Ne.symm (own_ne hwd.out.own hwd.out.blk de_); simpa using this), gl_step hgr hwd.out.gl (fun r hr => .inr (ownB_blk hwd.out.own r (by simpa using hr)).1)⟩
    have hand := and31_div S 1048576 1048576 rfl om_
    have HRUN := Lib.hid hrun
    have f1 : wr.cell? ⟨w.heap.size, 1, none⟩ = some (.int .i64 S) := hfc 1
    have hi : (30 - 5 * ((2 : Nat) : Int)) = 20 := by omega
    rw [hi]
    simp only [hlk] at HRUN HWD ⊢
    clear hi hst hx8 hrun hown2 hgr hfc hlk HB0 hwd
    go_wp2_with (at_builtin; refine wpList_append_run _ rfl (.tmp 8) (.tmp 15) 47 47 rfl _ _ (by simp [Act.eval, Act.put]) (by simp [Act.eval, Act.put]) HRUN.out ?_)
    exact ⟨⟨3, by omega, by first | rfl | go_num, HWD⟩, by first | (simp [intOf]; done) | (simp [intOf]; omega)⟩
  · have hst := dig_step S 3 om_
    have hx8 : ((S : Int) / 32768 % 32) = ((UInt8.ofNat (S / 2 ^ (35 - 5 * (3 + 1)) % 32)).toNat : Nat) := by rw [UInt8.toNat_ofNat', show 2 ^ (35 - 5 * (3 + 1)) = 32768 from rfl]; omega
    obtain ⟨g, cap, w2, hrun, hown2, hgr, _, _⟩ := run_appB1 w.heap.size _ _ (UInt8.ofNat (S / 2 ^ (35 - 5 * (3 + 1)) % 32)) ((S : Int) / 32768 % 32) hx8 wr _ (.inr rfl) hwd.out.own om_ hwd.out.gl.size
    rw [← hst] at hown2
    have HWD : Hid (WdAt w ⟨am, S, hash, payee, memo, E, D, sig⟩ (digB 32 (3 + 1) (S / 2 ^ (35 - 5 * (3 + 1)))) (.slice (some ⟨g, 0, none⟩) ((digB 32 3 (S / 2 ^ (35 - 5 * 3))).length + 1) cap) w2) := Lib.hid ⟨hown2, blk_gl hwd.out.blk hgr (by have := Ne.symm (own_ne hwd.out.own hwd.out.blk de_); simpa using this), gl_step hgr hwd.out.gl (fun r hr => .inr (ownB_blk hwd.out.own r (by simpa using hr)).1)⟩
    have hand := and31_div S 32768 32768 rfl om_
    have HRUN := Lib.hid hrun
    have f1 : wr.cell? ⟨w.heap.size, 1, none⟩ = some (.int .i64 S) := hfc 1
    have hi : (30 - 5 * ((3 : Nat) : Int)) = 15 := by omega
    rw [hi]
    simp only [hlk] at HRUN HWD ⊢
    clear hi hst hx8 hrun hown2 hgr hfc hlk HB0 hwd
    go_wp2_with (at_builtin; refine wpList_append_run _ rfl (.tmp 8) (.tmp 15) 47 47 rfl _ _ (by simp [Act.eval, Act.put]) (by simp [Act.eval, Act.put]) HRUN.out ?_)
    exact ⟨⟨4, by omega, by first | rfl | go_num, HWD⟩, by first | (simp [intOf]; done) | (simp [intOf]; omega)⟩
  · have hst := dig_step S 4 om_
    have hx8 : ((S : Int) / 1024 % 32) = ((UInt8.ofNat (S / 2 ^ (35 - 5 * (4 + 1)) % 32)).toNat : Nat) := by rw [UInt8.toNat_ofNat', show 2 ^ (35 - 5 * (4 + 1)) = 1024 from rfl]; omega
    obtain ⟨g, cap, w2, hrun, hown2, hgr, _, _⟩ := run_appB1 w.heap.size _ _ (UInt8.ofNat (S / 2 ^ (35 - 5 * (4 + 1)) % 32)) ((S : Int) / 1024 % 32) hx8 wr _ (.inr rfl) hwd.out.own om_ hwd.out.gl.size
    rw [← hst] at hown2
    have HWD : Hid (WdAt w ⟨am, S, hash, payee, memo, E, D, sig⟩ (digB 32 (4 + 1) (S / 2 ^ (35 - 5 * (4 + 1)))) (.slice (some ⟨g, 0, none⟩) ((digB 32 4 (S / 2 ^ (35 - 5 * 4))).length + 1) cap) w2) := Lib.hid ⟨hown2, blk_gl hwd.out.blk hgr (by have := Ne.symm (own_ne hwd.out.own hwd.out.blk de_); simpa using this), gl_step hgr hwd.out.gl (fun r hr => .inr (ownB_blk hwd.out.own r (by simpa using hr)).1)⟩
    have hand := and31_div S 1024 1024 rfl om_
    have HRUN := Lib.hid hrun
    have f1 : wr.cell? ⟨w.heap.size, 1, none⟩ = some (.int .i64 S) := hfc 1
    have hi : (30 - 5 * ((4 : Nat) : Int)) = 10 := by omega
    rw [hi]
    simp only [hlk] at HRUN HWD ⊢
    clear hi hst hx8 hrun hown2 hgr hfc hlk HB0 hwd
    go_wp2_with (at_builtin; refine wpList_append_run _ rfl (.tmp 8) (.tmp 15) 47 47 rfl _ _ (by simp [Act.eval, Act.put]) (by simp [Act.eval, Act.put]) HRUN.out ?_)
    exact ⟨⟨5, by omega, by first | rfl | go_num, HWD⟩, by first | (simp [intOf]; done) | (simp [intOf]; omega)⟩
  · have hst := dig_step S 5 om_
    have hx8 : ((S : Int) / 32 % 32) = ((UInt8.ofNat (S / 2 ^ (35 - 5 * (5 + 1)) % 32)).toNat : Nat) := by rw [UInt8.toNat_ofNat', show 2 ^ (35 - 5 * (5 + 1)) = 32 from rfl]; omega
    obtain ⟨g, cap, w2, hrun, hown2, hgr, _, _⟩ := run_appB1 w.heap.size _ _ (UInt8.ofNat (S / 2 ^ (35 - 5 * (5 + 1)) % 32)) ((S : Int) / 32 % 32) hx8 wr _ (.inr rfl) hwd.out.own om_ hwd.out.gl.size
    rw [← hst] at hown2
    have HWD : Hid (WdAt w ⟨am, S, hash, payee, memo, E, D, sig⟩ (digB 32 (5 + 1) (S / 2 ^ (35 - 5 * (5 + 1)))) (.slice (some ⟨g, 0, none⟩) ((digB 32 5 (S / 2 ^ (35 - 5 * 5))).length + 1) cap) w2) := Lib.hid ⟨hown2, blk_gl hwd.out.blk hgr (by have := Ne.symm (own_ne hwd.out.own hwd.out.blk de_); simpa using this), gl_step hgr hwd.out.gl (fun r hr => .inr (ownB_blk hwd.out.own r (by simpa using hr)).1)⟩
    have hand := and31_div S 32 32 rfl om_
    have HRUN := Lib.hid hrun
    have f1 : wr.cell? ⟨w.heap.size, 1, none⟩ = some (.int .i64 S) := hfc 1
    have hi : (30 - 5 * ((5 : Nat) : Int)) = 5 := by omega
    rw [hi]
    simp only [hlk] at HRUN HWD ⊢
    clear hi hst hx8 hrun hown2 hgr hfc hlk HB0 hwd
    go_wp2_with (at_builtin; refine wpList_append_run _ rfl (.tmp 8) (.tmp 15) 47 47 rfl _ _ (by simp [Act.eval, Act.put]) (by simp [Act.eval, Act.put]) HRUN.out ?_)
    exact ⟨⟨6, by omega, by first | rfl | go_num, HWD⟩, by first | (simp [intOf]; done) | (simp [intOf]; omega)⟩
  · have hst := dig_step S 6 om_
    have hx8 : ((S : Int) % 32) = ((UInt8.ofNat (S / 2 ^ (35 - 5 * (6 + 1)) % 32)).toNat : Nat) := by rw [UInt8.toNat_ofNat', show 2 ^ (35 - 5 * (6 + 1)) = 1 from rfl]; omega
    obtain ⟨g, cap, w2, hrun, hown2, hgr, _, _⟩ := run_appB1 w.heap.size _ _ (UInt8.ofNat (S / 2 ^ (35 - 5 * (6 + 1)) % 32)) ((S : Int) % 32) hx8 wr _ (.inr rfl) hwd.out.own om_ hwd.out.gl.size
    rw [← hst] at hown2
    have HWD : Hid (WdAt w ⟨am, S, hash, payee, memo, E, D, sig⟩ (digB 32 (6 + 1) (S / 2 ^ (35 - 5 * (6 + 1)))) (.slice (some ⟨g, 0, none⟩) ((digB 32 6 (S / 2 ^ (35 - 5 * 6))).length + 1) cap) w2) := Lib.hid ⟨hown2, blk_gl hwd.out.blk hgr (by have := Ne.symm (own_ne hwd.out.own hwd.out.blk de_); simpa using this), gl_step hgr hwd.out.gl (fun r hr => .inr (ownB_blk hwd.out.own r (by simpa using hr)).1)⟩
    have hand : bits .and .i64 (S : Int) 31 = (S : Int) % 32 := by rw [and31_i64 S om_]; simp
    have HRUN := Lib.hid hrun
    have f1 : wr.cell? ⟨w.heap.size, 1, none⟩ = some (.int .i64 S) := hfc 1
    have hi : (30 - 5 * ((6 : Nat) : Int)) = 0 := by omega
    rw [hi]
    simp only [hlk] at HRUN HWD ⊢
    clear hi hst hx8 hrun hown2 hgr hfc hlk HB0 hwd
    go_wp2_with (at_builtin; refine wpList_append_run _ rfl (.tmp 8) (.tmp 15) 47 47 rfl _ _ (by simp [Act.eval, Act.put]) (by simp [Act.eval, Act.put]) HRUN.out ?_)
    exact ⟨⟨7, by omega, by first | rfl | go_num, HWD⟩, by first | (simp [intOf]; done) | (simp [intOf]; omega)⟩
  · have hi : (30 - 5 * ((7 : Nat) : Int)) = -5 := by omega
    rw [hi]
    have hs0 : S / 2 ^ (35 - 5 * 7) = S := by simp
    rw [hs0] at hwd hlk
    have HA0 := hwd
    simp only [hlk] at HA0
    have L0 : (digB 32 7 S).length ≤ 7 := by omega
    generalize hl0 : digB 32 7 S = l0 at *
    clear hi hs0 hwd HB0 hfc
    have g0 : wr.cell? ⟨w.heap.size, 2, none⟩ = some (.string (bs hash)) := wd_cells HA0.out 2
    go_wp2_with fail
    refine (iTxtW hash om_ _).mono ?_
    rintro e x0 ⟨ta0, tc0, rfl, ht0, hb0⟩
    have HT0 := Lib.hid ht0
    have HBL0 := Lib.hid hb0
    clear ht0 hb0
    go_wp2_with fail
    refine (iFld w.heap.size wr.heap.size 1 1 rfl l0 (textW hash) _ _ x0 (wd_below HA0.out HBL0.out).own HT0.out (fun g hg => (ownB_blk HA0.out.own g hg).2) om_ om_ (wd_below HA0.out HBL0.out).gl.size).mono ?_
    rintro e y0 ⟨fa0, fc0, rfl, hf0, hg0⟩
    have HA1 := Lib.hid (wd_fld HA0.out HBL0.out hg0 hf0)
    have L1 : (l0 ++ fieldW 1 (textW hash)).length ≤ 1033 := by rw [List.length_append]; unfold fieldW; simp only [List.length_cons]; omega
    clear hf0 hg0 g0 HT0 HBL0
    generalize hl1 : l0 ++ fieldW 1 (textW hash) = l1 at *
    have g1 : y0.cell? ⟨w.heap.size, 3, none⟩ = some (.string (bs payee)) := wd_cells HA1.out 3
    go_wp2_with fail
    refine (iTxtW payee om_ _).mono ?_
    rintro e x1 ⟨ta1, tc1, rfl, ht1, hb1⟩
    have HT1 := Lib.hid ht1
    have HBL1 := Lib.hid hb1
    clear ht1 hb1
    go_wp2_with fail
    refine (iFld w.heap.size y0.heap.size 19 19 rfl l1 (textW payee) _ _ x1 (wd_below HA1.out HBL1.out).own HT1.out (fun g hg => (ownB_blk HA1.out.own g hg).2) om_ om_ (wd_below HA1.out HBL1.out).gl.size).mono ?_
    rintro e y1 ⟨fa1, fc1, rfl, hf1, hg1⟩
    have HA2 := Lib.hid (wd_fld HA1.out HBL1.out hg1 hf1)
    have L2 : (l1 ++ fieldW 19 (textW payee)).length ≤ 2059 := by rw [List.length_append]; unfold fieldW; simp only [List.length_cons]; omega
    clear hf1 hg1 g1 HT1 HBL1
    generalize hl2 : l1 ++ fieldW 19 (textW payee) = l2 at *
    have g2 : y1.cell? ⟨w.heap.size, 4, none⟩ = some (.string (bs memo)) := wd_cells HA2.out 4
    go_wp2_with fail
    refine (iTxtW memo om_ _).mono ?_
    rintro e x2 ⟨ta2, tc2, rfl, ht2, hb2⟩
    have HT2 := Lib.hid ht2
    have HBL2 := Lib.hid hb2
    clear ht2 hb2
    go_wp2_with fail
    refine (iFld w.heap.size y1.heap.size 13 13 rfl l2 (textW memo) _ _ x2 (wd_below HA2.out HBL2.out).own HT2.out (fun g hg => (ownB_blk HA2.out.own g hg).2) om_ om_ (wd_below HA2.out HBL2.out).gl.size).mono ?_
    rintro e y2 ⟨fa2, fc2, rfl, hf2, hg2⟩
    have HA3 := Lib.hid (wd_fld HA2.out HBL2.out hg2 hf2)
    have L3 : (l2 ++ fieldW 13 (textW memo)).length ≤ 3085 := by rw [List.length_append]; unfold fieldW; simp only [List.length_cons]; omega
    clear hf2 hg2 g2 HT2 HBL2
    generalize hl3 : l2 ++ fieldW 13 (textW memo) = l3 at *
    have g3 : y2.cell? ⟨w.heap.size, 5, none⟩ = some (.int .i64 E) := wd_cells HA3.out 5
    go_wp2_with fail
    refine (iNum E _ om_).mono ?_
    rintro e x3 ⟨ta3, tc3, rfl, ht3, hb3⟩
    have HT3 := Lib.hid ht3
    have HBL3 := Lib.hid hb3
    clear ht3 hb3
    go_wp2_with fail
    refine (iFld w.heap.size y2.heap.size 6 6 rfl l3 (numW E) _ _ x3 (wd_below HA3.out HBL3.out).own HT3.out (fun g hg => (ownB_blk HA3.out.own g hg).2) om_ om_ (wd_below HA3.out HBL3.out).gl.size).mono ?_
    rintro e y3 ⟨fa3, fc3, rfl, hf3, hg3⟩
    have HA4 := Lib.hid (wd_fld HA3.out HBL3.out hg3 hf3)
    have L4 : (l3 ++ fieldW 6 (numW E)).length ≤ 3095 := by rw [List.length_append]; unfold fieldW; simp only [List.length_cons]; omega
    clear hf3 hg3 g3 HT3 HBL3
    generalize hl4 : l3 ++ fieldW 6 (numW E) = l4 at *
    have g4 : y3.cell? ⟨w.heap.size, 6, none⟩ = some (.int .i64 D) := wd_cells HA4.out 6
    go_wp2_with fail
    refine (iNum D _ om_).mono ?_
    rintro e x4 ⟨ta4, tc4, rfl, ht4, hb4⟩
    have HT4 := Lib.hid ht4
    have HBL4 := Lib.hid hb4
    clear ht4 hb4
    go_wp2_with fail
    refine (iFld w.heap.size y3.heap.size 24 24 rfl l4 (numW D) _ _ x4 (wd_below HA4.out HBL4.out).own HT4.out (fun g hg => (ownB_blk HA4.out.own g hg).2) om_ om_ (wd_below HA4.out HBL4.out).gl.size).mono ?_
    rintro e y4 ⟨fa4, fc4, rfl, hf4, hg4⟩
    have HA5 := Lib.hid (wd_fld HA4.out HBL4.out hg4 hf4)
    have L5 : (l4 ++ fieldW 24 (numW D)).length ≤ 3105 := by rw [List.length_append]; unfold fieldW; simp only [List.length_cons]; omega
    clear hf4 hg4 g4 HT4 HBL4
    generalize hl5 : l4 ++ fieldW 24 (numW D) = l5 at *
    have HE : Hid (wordsI ⟨am, S, hash, payee, memo, E, D, sig⟩ = l5) := HW
    have hf : OwnB w.heap.size (.slice fa4 l5.length fc4) l5 y4 := HA5.out.own
    have HF := Lib.hid hf
    clear hf hl0 hl1 hl2 hl3 hl4 hl5
    go_wp2_with fail
    exact bodyPost_ret (v := .slice fa4 l5.length fc4) (by simp [results, Tryz.results38, go_sem]) rfl ⟨fa4, fc4, by rw [HE.out], by rw [HE.out]; exact HF.out, gl_to_below HA5.out.gl⟩
end Go.Proofs.YtembdkodajichaaGreatDoor
