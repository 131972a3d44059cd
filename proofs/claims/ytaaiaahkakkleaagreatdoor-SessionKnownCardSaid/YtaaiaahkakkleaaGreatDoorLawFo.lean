/- The laws of layer 21: whoever heard all can make no frame, and knows no secret. -/
import Derived.Test.YtaaiaahkakkleaaGreatDoorLawFa
import Derived.Test.YtaaiaahkakkleaaGreatDoorLawFb
import Derived.Test.YtaaiaahkakkleaaGreatDoorLawO
import Derived.Test.YtaaiaahkakkleaaGreatDoorSfP
import Derived.Test.YtaaiaahkakkleaaGreatDoorAppT
import Derived.Test.YtaaiaahkakkleaaGreatDoorDedF
import Derived.Test.YtaaiaahkakkleaaGreatDoorDedD
set_option maxRecDepth 100000
set_option maxHeartbeats 16000000
set_option linter.unusedSimpArgs false
set_option linter.unusedVariables false
namespace Go.Proofs.YtaaiaahkakkleaaGreatDoor
open Go.RowKit
theorem four_at2 (i e s f : Int) (hi : 0 ≤ i) (hi2 : i ≤ 9223372036854775807) (he : 0 ≤ e) (he2 : e ≤ 9223372036854775807) (hs : 0 ≤ s) (hs2 : s ≤ 9223372036854775807) (hf : 0 ≤ f) (hf2 : f ≤ 9223372036854775807) {NL PL : List (List UInt8)} (hN : [nameL i.toNat, nameL e.toNat, nameL s.toNat, nameL f.toNat] = NL) (hP : [80 :: nameL i.toNat, 80 :: nameL e.toNat, 80 :: nameL s.toNat, 80 :: nameL f.toNat] = PL) :
  ∀ k, k < 4 → ∃ n : Int, (#[.int .i64 i, .int .i64 e, .int .i64 s, .int .i64 f] : Array Value)[k]? = some (.int .i64 n) ∧ 0 ≤ n ∧ n ≤ 9223372036854775807 ∧ nameT n = (nameL n.toNat, 0) ∧ NL.take (k + 1) = NL.take k ++ [nameL n.toNat] ∧ PL.take (k + 1) = PL.take k ++ [80 :: nameL n.toNat] := by
 subst hN hP
 intro k hk
 have hn : ∀ n : Int, 0 ≤ n → nameT n = (nameL n.toNat, 0) := fun n h => by
  have := nameT_ok n.toNat
  rwa [show ((n.toNat : Nat) : Int) = n by omega] at this
 match k, hk with
 | 0, _ => exact ⟨i, rfl, hi, hi2, hn i hi, rfl, rfl⟩
 | 1, _ => exact ⟨e, rfl, he, he2, hn e he, rfl, rfl⟩
 | 2, _ => exact ⟨s, rfl, hs, hs2, hn s hs, rfl, rfl⟩
 | 3, _ => exact ⟨f, rfl, hf, hf2, hn f hf, rfl, rfl⟩
structure FoAt (w : World) (X Y M bh be : Nat) (i e s f : Int) (k1 k2 d l : List UInt8) (ca cb : Nat) (L : List (List UInt8)) (S : List UInt8 → Bool) (n : Nat) : Prop where
 sx : SesAt w X (nameL i.toNat) (nameL e.toNat) (80 :: nameL s.toNat) true true false k1 d ca l cb (.func (.func 96) #[.pointer (some ⟨X, 0, none⟩)] #[])
 sy : SesAt w Y (nameL s.toNat) (nameL f.toNat) (80 :: nameL i.toNat) false true false k2 l cb d ca (.func (.func 96) #[.pointer (some ⟨Y, 0, none⟩)] #[])
 mind : MindAt w M bh be (heardP L) S n
theorem fo_gl {w w' : World} {X Y M bh be : Nat} {i e s f : Int} {k1 k2 d l : List UInt8} {ca cb : Nat} {L : List (List UInt8)} {S : List UInt8 → Bool} {n : Nat} {rs : List Nat} (h : FoAt w X Y M bh be i e s f k1 k2 d l ca cb L S n) (hg : GL rs w w') (hr : ∀ r ∈ rs, r ≠ X ∧ r ≠ Y ∧ r ≠ M ∧ r ≠ bh ∧ r ≠ be) : FoAt w' X Y M bh be i e s f k1 k2 d l ca cb L S n :=
 ⟨blk_gl h.sx hg (fun hm => (hr _ hm).1 rfl), blk_gl h.sy hg (fun hm => (hr _ hm).2.1 rfl), mind_gl h.mind hg (fun hm => (hr _ hm).2.2.1 rfl) (fun hm => (hr _ hm).2.2.2.1 rfl) (fun hm => (hr _ hm).2.2.2.2 rfl)⟩
theorem fo_learn {w : World} {X Y M bh be : Nat} {i e s f : Int} {k1 k2 d l : List UInt8} {ca cb : Nat} {L : List (List UInt8)} {S : List UInt8 → Bool} {n : Nat} (h : FoAt w X Y M bh be i e s f k1 k2 d l ca cb L S n) (t : List UInt8) (ht : t.length ≤ 9000000000000000000) (hn : n < 1024) (hX : X ≠ bh ∧ X ≠ be ∧ Y ≠ bh ∧ Y ≠ be) (hG : GOk w) :
  Calls Tryz.prog 22 #[.pointer (some ⟨M, 0, none⟩), .string (bs t)] w fun e' w' => ∃ (S' : List UInt8 → Bool) (n' : Nat) (r : Int), e' = .returned (.int .i64 r) ∧ FoAt w' X Y M bh be i e s f k1 k2 d l ca cb (L ++ [t]) S' n' ∧ n' ≤ n + 1 ∧ GL [bh, be] w w' := by
 refine (dLearn M bh be n _ S t ht w hG h.mind).mono ?_
 rintro e' w' ⟨S', rfl, hM, hg⟩
 rw [heardP_add _ _ _ hn] at hM
 exact ⟨S', _, _, rfl, ⟨blk_gl h.sx hg so_, blk_gl h.sy hg so_, hM⟩, (learnN_le _ _ _).2.1, hg⟩
theorem lForgesYes (i e s f : Int) (ad : Option Addr) (c : Nat) (ws : List (Bool × List UInt8)) (ad2 : Option Addr) (c2 : Nat) (ms : List (List UInt8)) (tr : List UInt8) (ri : -9223372036854775808 ≤ i) (ri2 : i ≤ 9223372036854775807) (re : -9223372036854775808 ≤ e) (re2 : e ≤ 9223372036854775807) (rs : -9223372036854775808 ≤ s) (rs2 : s ≤ 9223372036854775807) (rf : -9223372036854775808 ≤ f) (rf2 : f ≤ 9223372036854775807) (hall : Four i e s f ws ms tr) (hmt : ∀ t ∈ ms, t.length ≤ 9000000000000000000) (w : World) (hW : WordsAt (.slice ad ws.length c) ws w) (hM : TermsAt (.slice ad2 ms.length c2) ms w) (hG : GOk w) :
  Calls Tryz.prog 6 #[.int .i64 i, .int .i64 e, .int .i64 s, .int .i64 f, .slice ad ws.length c, .slice ad2 ms.length c2, .string (bs tr)] w fun en w' => en = .returned (.bool true) ∧ Below w.heap.size w w' := by
 obtain ⟨pi, pe, ps, pf, hfew, n4, n5, n6, n7, n8, n9, hm5, ht100⟩ := hall
 have hf2 : ws.length ≤ 12 ∧ ∀ x ∈ ws, x.2.length ≤ 200 := by
  unfold fewB at hfew
  simp only [Bool.and_eq_true, decide_eq_true_eq, List.all_eq_true] at hfew
  exact ⟨hfew.2, hfew.1⟩
 have h12 := hf2.1
 have h200 := Lib.hid hf2.2
 have HFEW := Lib.hid hfew
 have HWD := Lib.hid hW
 have HMD := Lib.hid hM
 have HMT := Lib.hid hmt
 obtain ⟨k1, k2, a1, a2, a3, d, l, hk, hsf⟩ := sf_all i.toNat e.toNat s.toNat f.toNat om_ om_ om_ om_
 have HK := Lib.hid hk
 have HSF := Lib.hid hsf
 obtain ⟨NL, hNL⟩ : ∃ x, [nameL i.toNat, nameL e.toNat, nameL s.toNat, nameL f.toNat] = x := ⟨_, rfl⟩
 obtain ⟨PL, hPL⟩ : ∃ x, [80 :: nameL i.toNat, 80 :: nameL e.toNat, 80 :: nameL s.toNat, 80 :: nameL f.toNat] = x := ⟨_, rfl⟩
 have H4 := Lib.hid (four_at2 i e s f pi ri2 pe re2 ps rs2 pf rf2 hNL hPL)
 have HNL := Lib.hid hNL
 have HPL := Lib.hid hPL
 have hNn : NL.length = 4 := by rw [← hNL]; rfl
 have hPn : PL.length = 4 := by rw [← hPL]; rfl
 have HNR := Lib.hid (show ∀ nm ∈ NL, right nm = true ∧ nm.length ≤ 25 by
  rw [← hNL]
  simp only [List.forall_mem_cons]
  exact ⟨⟨(nameL_right om_).1, nameL_len om_⟩, ⟨(nameL_right om_).1, nameL_len om_⟩, ⟨(nameL_right om_).1, nameL_len om_⟩, ⟨(nameL_right om_).1, nameL_len om_⟩, by simp⟩)
 have ld : d.length ≤ 9000000000000000000 := by have := hk.qd.2; omega
 have ll : l.length ≤ 9000000000000000000 := by have := hk.ql.2; omega
 have la1 : a1.length ≤ 1000 := hk.la1
 have la2 : a2.length ≤ 1000 := hk.la2
 have la3 : a3.length ≤ 1000 := hk.la3
 have HFD := Lib.hid (show ∀ (c : Nat) (x : List UInt8), c ≤ 50 → x.length ≤ 4000 → ∃ fr, makeM d c x = (fr, 0) ∧ readM d c fr = some x ∧ fr.length ≤ 16384 from fun c x hc hx => frame_at hk.qd om_ om_ om_ om_ hx)
 have HFL := Lib.hid (show ∀ (c : Nat) (x : List UInt8), c ≤ 50 → x.length ≤ 4000 → ∃ fr, makeM l c x = (fr, 0) ∧ readM l c fr = some x ∧ fr.length ≤ 16384 from fun c x hc hx => frame_at hk.ql om_ om_ om_ om_ hx)
 have HOD := Lib.hid (show ∀ c : Nat, c ≤ 50 → onM d c = (d, c + 1) from fun c hc => (onM_at hk.qd om_ om_ om_ (show c ≤ 99 by omega)).2.2 om_)
 have HOL := Lib.hid (show ∀ c : Nat, c ≤ 50 → onM l c = (l, c + 1) from fun c hc => (onM_at hk.ql om_ om_ om_ (show c ≤ 99 by omega)).2.2 om_)
 have b0 : decide (i < 0) = false := by simpa using pi
 have b1 : decide (e < 0) = false := by simpa using pe
 have b2 : decide (s < 0) = false := by simpa using ps
 have b3 : decide (f < 0) = false := by simpa using pf
 have b4 : (i == e) = false := by simpa using n4
 have b5 : (i == s) = false := by simpa using n5
 have b6 : (i == f) = false := by simpa using n6
 have b7 : (e == s) = false := by simpa using n7
 have b8 : (e == f) = false := by simpa using n8
 have b9 : (s == f) = false := by simpa using n9
 have b10 : decide ((5 : Int) < ms.length) = false := by simp; omega
 have b11 : decide ((100 : Int) < tr.length) = false := by simp; omega
 have HG0 := Lib.hid hG
 have hgn := hG.size
 clear hk hG hW hM hf2 hfew hmt hsf hNL hPL n4 n5 n6 n7 n8 n9
 go_enter Tryz.func6, Tryz.ntmps6
 go_wp2_with fail
 refine (lFew _ ws _ HWD.out om_ (fun x hx => by have := h200.out x hx; omega)).mono ?_
 rintro en w0 ⟨rfl, rfl⟩
 rw [HFEW.out]
 go_wp2_with fail
 clear b0 b1 b2 b3 b4 b5 b6 b7 b8 b9 b10 b11
 refine (lOpened i e s f pi ri2 pe re2 ps rs2 pf rf2 _ _ _ _ _ _ _ HK.out _ HG0.out).mono ?_
 rintro en w1 hp
 obtain ⟨X, Y, g, geX, geY, geL, neXY, rfl, hx1, hy1, hl1, hb1⟩ := hp
 have HX1 := Lib.hid hx1
 have HY1 := Lib.hid hy1
 have HL1 := Lib.hid hl1
 have hgX : g ≠ X := fun h => by
  have h2 := hl1
  rw [h, show w1.heap[X]? = _ from hx1] at h2
  simp at h2
 have hgY : g ≠ Y := fun h => by
  have h2 := hl1
  rw [h, show w1.heap[Y]? = _ from hy1] at h2
  simp at h2
 have ltX := blk_lt hx1
 have ltY := blk_lt hy1
 have ltg := blk_lt hl1
 have hg1 : GL [] w w1 := gl_below hb1 (gl_refl _ _)
 have hsz1 := hb1.size
 clear hx1 hy1 hl1 hb1
 go_wp2_with fail
 refine (dNew _ (gok_gl HG0.out hg1 si_)).mono ?_
 rintro en w2 ⟨M, bh, be, rfl, hM2, hq1, hq2, hq3, hb2⟩
 have hml := mind_lt hM2
 rw [← heardP_nil] at hM2
 have hne : X ≠ bh ∧ X ≠ be ∧ Y ≠ bh ∧ Y ≠ be ∧ X ≠ M ∧ Y ≠ M ∧ g ≠ bh ∧ g ≠ be ∧ g ≠ M := by omega
 have HFO := Lib.hid (show FoAt (w2.alloc (.cells #[.int .i64 i, .int .i64 e, .int .i64 s, .int .i64 f] 2)) X Y M bh be i e s f k1 k2 d l 0 0 [] _ 0 from
  fo_gl (rs := []) ⟨blk_below HX1.out hb2 ltX, blk_below HY1.out hb2 ltY, hM2⟩ (gl_alloc (gl_refl _ _) _) si_)
 have HL3 := Lib.hid (blk_alloc (blk_below HL1.out hb2 ltg) (.cells #[.int .i64 i, .int .i64 e, .int .i64 s, .int .i64 f] 2))
 have HA3 := Lib.hid (blk_new w2 (.cells #[.int .i64 i, .int .i64 e, .int .i64 s, .int .i64 f] 2))
 have hg3 : GL [] w (w2.alloc (.cells #[.int .i64 i, .int .i64 e, .int .i64 s, .int .i64 f] 2)) := gl_alloc (gl_below hb2 hg1) _
 have hsz2 := hb2.size
 have hszA : w2.heap.size < (w2.alloc (.cells #[.int .i64 i, .int .i64 e, .int .i64 s, .int .i64 f] 2)).heap.size := by simp
 go_wp2_with fail
 generalize w2.alloc (.cells #[.int .i64 i, .int .i64 e, .int .i64 s, .int .i64 f] 2) = w3 at *
 generalize w2.heap.size = A at *
 have hsz3 := hg3.size
 clear hM2 hb2 HX1 HY1 HL1 hg1
 go_loopw [20, 136] (fun lv iv wr => ∃ (k n : Nat) (S : List UInt8 → Bool), k ≤ 4 ∧ iv = .int .i64 k ∧ n ≤ k ∧ Hid (OwnT w3.heap.size lv (NL.take k) wr) ∧ Hid (FoAt wr X Y M bh be i e s f k1 k2 d l 0 0 (PL.take k) S n) ∧ Hid (GL [bh, be] w3 wr)) (fun _ iv _ => 4 - (intOf iv).toNat)
 case atStart => exact ⟨0, 0, _, by omega, rfl, by omega, Lib.hid (ownT_nil _ _), HFO, Lib.hid (gl_refl _ _)⟩
 case round =>
  obtain ⟨k, n, S, hk, rfl, hnk, hOwn, hFo, hgr⟩ := hrel
  have hgw : GL [] w wr := gl_step hgr.out hg3 (fun r hr => .inr (by simp at hr; omega))
  have hszr := hgr.out.size
  by_cases hlt : k < 4
  · obtain ⟨z, hc, hz0, hz1, hnm, htk, htp⟩ := H4.out k hlt
    have i1 : (k : Int) < 4 := by omega
    have c0 : wr.cell? ⟨A, k, none⟩ = some (.int .i64 z) := ((blk_cell (blk_gl HA3.out hgr.out so_) k)).trans hc
    have HZ := Lib.hid hnm
    have HT := Lib.hid htk
    have HP := Lib.hid htp
    clear hc hnm htk htp
    go_wp2_with fail
    refine (tMkName z om_ hz1 _ (gok_gl HG0.out hgw si_)).mono ?_
    rintro en w4 ⟨rfl, hb4⟩
    rw [HZ.out]
    have hnl := nameL_len (n := z.toNat) om_
    have HPZ := Lib.hid (nameL_key (n := z.toNat) om_).1
    generalize nameL z.toNat = nm at *
    have HO4 := Lib.hid (ownT_below hOwn.out hb4)
    have HF4 := Lib.hid (fo_gl hFo.out (gl_below hb4 (gl_refl [] _)) si_)
    have hg4 : GL [bh, be] w3 w4 := gl_below hb4 hgr.out
    have hsz4 := hb4.size
    have hown4 := ownT_blk HO4.out
    obtain ⟨NK, hNK⟩ : ∃ x, NL.take k = x := ⟨_, rfl⟩
    have HNK := Lib.hid (show NK.length = k by rw [← hNK]; simp; omega)
    rw [hNK] at HO4 HT
    obtain ⟨an, cn, hlv⟩ := ownT_form HO4.out
    subst hlv
    clear hb4 c0 HZ hNK
    go_wp2_with (at_builtin; go_must (refine wpList_appT rfl _ _ rfl w3.heap.size (.slice an NK.length cn) NK nm w4 _ rfl rfl rfl HO4.out (by have := HNK.out; omega) om_ ?_; (intro g5 c5 w5 hO5 hg5 hn5); (have HO5 := Lib.hid hO5); (have HG5 := Lib.hid hg5)))
    rw [← HT.out] at HO5
    have hg5w : GL [bh, be] w3 w5 := gl_step HG5.out hg4 (fun r hr => .inr (by rw [Option.mem_toList] at hr; exact (hown4 r hr).1))
    have HF5 := Lib.hid (fo_gl HF4.out HG5.out (fun r hr => by rw [Option.mem_toList] at hr; have := (hown4 r hr).1; omega))
    have hgw5 : GL [] w w5 := gl_step hg5w hg3 (fun r hr => .inr (by simp at hr; omega))
    clear hO5 hg5 HG5 HO4 HF4 hn5
    refine (tPub nm om_ _ (gok_gl HG0.out hgw5 si_)).mono ?_
    rintro en w6 ⟨rfl, hb6⟩
    rw [HPZ.out]
    have HO6 := Lib.hid (ownT_below HO5.out hb6)
    have HF6 := Lib.hid (fo_gl HF5.out (gl_below hb6 (gl_refl [] _)) si_)
    have hg6 : GL [bh, be] w3 w6 := gl_below hb6 hg5w
    have hgw6 : GL [] w w6 := gl_below hb6 hgw5
    clear hb6 HF5 HO5
    go_wp2_with fail
    refine (fo_learn HF6.out (80 :: nm) so_ om_ om_ (gok_gl HG0.out hgw6 si_)).mono ?_
    rintro en w7 ⟨S7, n7, r7, rfl, hF7, hn7, hg7⟩
    rw [← HP.out] at hF7
    have HF7 := Lib.hid hF7
    have hown6 := ownT_blk HO6.out
    have HO7 := Lib.hid (ownT_gl HO6.out hg7 (fun r hr => fun h => by have := (hown6 r h).1; simp at hr; omega))
    have hg7w : GL [bh, be] w3 w7 := gl_step hg7 hg6 (fun r hr => .inl hr)
    clear hF7 hg7 HF6 HO6
    go_wp2_with fail
    go_roundw
    case rel => first | exact ⟨k + 1, n7, S7, by omega, by go_num, by omega, HO7, HF7, Lib.hid hg7w⟩ | ((repeat apply Exists.intro); refine ⟨?_, rfl⟩; exact ⟨k + 1, n7, S7, by omega, by go_num, by omega, HO7, HF7, Lib.hid hg7w⟩)
    case measure => first | (simp [intOf]; omega) | ((show 4 - ((k : Int) + 1).toNat < 4 - (k : Int).toNat); omega)
  · obtain rfl : k = 4 := by omega
    rw [List.take_of_length_le om_] at hOwn hFo
    obtain ⟨an, cn, hlv⟩ := ownT_form hOwn.out
    subst hlv
    have hownb := ownT_blk hOwn.out
    have HNT := Lib.hid (ownT_at hOwn.out)
    have HL4 := Lib.hid (blk_gl HL3.out hgr.out so_)
    have hnb : ∀ b o m c, (Value.slice an NL.length cn) = .slice (some ⟨b, o, none⟩) m c → w3.heap.size ≤ b ∧ b < wr.heap.size := fun b o m c h => by
     injection h with h1 h2 h3
     subst h1
     exact hownb b rfl
    have HNB := Lib.hid hnb
    rw [hNn] at HNT HNB ⊢
    clear hnb HFO HA3 HL3 hOwn hlt hk hownb
    obtain ⟨w9, hw9⟩ : ∃ x, x = wr := ⟨_, rfl⟩
    rw [← hw9] at hFo HNT HL4 hgw hszr HNB ⊢
    clear hw9 hgr
    have hgw9 := hgw
    clear hgw
    go_wp2_with fail
    go_loopw [27] (fun iv wr => ∃ (k n : Nat) (S : List UInt8 → Bool) (Ml : List (List UInt8)), k ≤ ms.length ∧ iv = .int .i64 k ∧ n ≤ 4 + k ∧ Hid (∀ t ∈ Ml, right t = true → ∀ nm ∈ NL, stands nm t = false) ∧ Hid (FoAt wr X Y M bh be i e s f k1 k2 d l 0 0 (PL ++ Ml) S n) ∧ Hid (GL [bh, be] w9 wr)) (fun iv _ => ms.length - (intOf iv).toNat)
    case atStart => exact ⟨0, n, S, [], by omega, rfl, by omega, Lib.hid (fun t ht => by simp at ht), by rw [List.append_nil]; exact hFo, Lib.hid (gl_refl _ _)⟩
    case round =>
     clear hFo
     obtain ⟨k, n, S, Ml, hk, rfl, hnk, hfree, hFo, hgr⟩ := hrel
     have hgw : GL [] w wr := gl_step hgr.out hgw9 (fun r hr => .inr (by simp at hr; omega))
     have hszr := hgr.out.size
     by_cases hlt : k < ms.length
     · have i1 : (k : Int) < ms.length := by omega
       have hx : ms[k]? = some ms[k] := List.getElem?_eq_getElem hlt
       have htl := HMT.out ms[k] (List.getElem_mem _)
       rcases termsAt_open (termsAt_glx HMD.out hgw si_) with ⟨ad', c', he, h0 | ⟨b, o, rfl, hbl, hc⟩⟩
       · rw [h0] at hlt; simp at hlt
       injection he with he1 he2 he3
       subst he1 he3
       have c0 := hc k _ hx
       clear hx hc he2
       generalize ms[k] = t at *
       by_cases h100 : 100 < t.length
       · have b1 : decide ((100 : Int) < t.length) = true := by simp; omega
         go_wp2_with fail
         refine (lWorks21 _ (gok_gl HG0.out hgw si_)).mono ?_
         rintro en w10 ⟨rfl, hb10⟩
         go_wp2_with fail
         go_ret
         exact ⟨rfl, gl_to_below (gl_below hb10 hgw)⟩
       · have b1 : decide ((100 : Int) < t.length) = false := by simp; omega
         go_wp2_with fail
         obtain ⟨wo, hwo⟩ : ∃ x : World, x = wr := ⟨_, rfl⟩
         subst hwo
         go_loopw [28, 173] (fun fv jv wr => ∃ (j : Nat) (fb : Bool), j ≤ 4 ∧ jv = .int .i64 j ∧ fv = .bool fb ∧ Hid (fb = (NL.take j).all (fun nm => !stands nm t)) ∧ Hid (GL [] wo wr)) (fun _ jv _ => 4 - (intOf jv).toNat)
         case atStart => exact ⟨0, true, by omega, rfl, rfl, rfl, Lib.hid (gl_refl _ _)⟩
         case round =>
          obtain ⟨j, fb, hj, rfl, rfl, hfb, hgq⟩ := hrel
          have hgq9 : GL [bh, be] w9 wr := gl_step hgq.out hgr.out si_
          have hgwq : GL [] w wr := gl_step hgq.out hgw si_
          by_cases hltj : j < 4
          · have j1 : (j : Int) < 4 := by omega
            have hjn : j < NL.length := by omega
            have hxj : NL[j]? = some NL[j] := List.getElem?_eq_getElem hjn
            have hnr := HNR.out NL[j] (List.getElem_mem _)
            have HTJ := Lib.hid (show NL.take (j + 1) = NL.take j ++ [NL[j]] by rw [List.take_add_one, hxj]; rfl)
            rcases termsAt_open (termsAt_glx HNT.out hgq9 (fun b o c h => by have := (HNB.out b o _ c (by first | exact h | (rw [hNn] at h; exact h))).1; simp; omega)) with ⟨an', cn', hen, h0 | ⟨bn, on, rfl, hbln, hcn⟩⟩
            · rw [h0] at hjn; simp at hjn
            injection hen with hen1 hen2 hen3
            subst hen1 hen3
            have c1 := hcn j _ hxj
            clear hxj hcn hen2
            generalize NL[j] = nm at *
            cases fb with
            | false =>
              have HFB := Lib.hid (show false = (NL.take (j + 1)).all (fun nm => !stands nm t) by rw [HTJ.out, List.all_append, ← hfb.out]; rfl)
              clear c0
              go_wp2_with fail
              go_roundw
              case rel => first | exact ⟨j + 1, false, by omega, by go_num, rfl, HFB, hgq⟩ | ((repeat apply Exists.intro); refine ⟨?_, rfl⟩; exact ⟨j + 1, false, by omega, by go_num, rfl, HFB, hgq⟩)
              case measure => first | (simp [intOf]; omega) | ((show 4 - ((j : Int) + 1).toNat < 4 - (j : Int).toNat); omega)
            | true =>
              have HFB := Lib.hid (show (!stands nm t) = (NL.take (j + 1)).all (fun nm => !stands nm t) by rw [HTJ.out, List.all_append, ← hfb.out]; simp)
              have c2 := cell_glx c0 hgq.out si_
              clear c0
              go_wp2_with fail
              refine (lWithin nm hnr.1 (t.length + 1) t om_ htl _ (gok_gl HG0.out hgwq si_)).mono ?_
              rintro en w10 ⟨rfl, hb10⟩
              generalize stands nm t = sb at *
              have hgq2 : GL [] wo w10 := gl_below hb10 hgq.out
              clear hb10 c1 c2
              go_wp2_with fail
              go_roundw
              case rel => first | exact ⟨j + 1, !sb, by omega, by go_num, rfl, HFB, Lib.hid hgq2⟩ | ((repeat apply Exists.intro); refine ⟨?_, rfl⟩; exact ⟨j + 1, !sb, by omega, by go_num, rfl, HFB, Lib.hid hgq2⟩)
              case measure => first | (simp [intOf]; omega) | ((show 4 - ((j : Int) + 1).toNat < 4 - (j : Int).toNat); omega)
          · obtain rfl : j = 4 := by omega
            have hfb2 := hfb.out
            rw [List.take_of_length_le om_] at hfb2
            have c2 := cell_glx c0 hgq.out si_
            have HF2 := Lib.hid (fo_gl hFo.out hgq.out si_)
            clear c0 hFo hfb
            cases fb with
            | false =>
              clear hfb2 c2
              go_wp2_with fail
              go_roundw
              case rel => first | exact ⟨k + 1, n, S, Ml, by omega, by go_num, by omega, hfree, HF2, Lib.hid hgq9⟩ | ((repeat apply Exists.intro); refine ⟨?_, rfl⟩; exact ⟨k + 1, n, S, Ml, by omega, by go_num, by omega, hfree, HF2, Lib.hid hgq9⟩)
              case measure => first | (simp [intOf]; omega) | ((show ms.length - ((k : Int) + 1).toNat < ms.length - (k : Int).toNat); omega)
            | true =>
              have HFR := Lib.hid (show ∀ u ∈ Ml ++ [t], right u = true → ∀ nm ∈ NL, stands nm u = false from fun u hu hr nm hnm => by
               rcases List.mem_append.1 hu with hu | hu
               · exact hfree.out u hu hr nm hnm
               · rw [List.mem_singleton.1 hu]
                 have := List.all_eq_true.1 hfb2.symm nm hnm
                 simpa using this)
              clear hfb2
              go_wp2_with fail
              refine (fo_learn HF2.out t htl om_ om_ (gok_gl HG0.out hgwq si_)).mono ?_
              rintro en w10 ⟨S7, n7, r7, rfl, hF7, hn7, hg7⟩
              rw [List.append_assoc] at hF7
              have HF7 := Lib.hid hF7
              have hg7w : GL [bh, be] w9 w10 := gl_step hg7 hgq9 (fun r hr => .inl hr)
              clear hF7 hg7 c2
              go_wp2_with fail
              go_roundw
              case rel => first | exact ⟨k + 1, n7, S7, Ml ++ [t], by omega, by go_num, by omega, HFR, HF7, Lib.hid hg7w⟩ | ((repeat apply Exists.intro); refine ⟨?_, rfl⟩; exact ⟨k + 1, n7, S7, Ml ++ [t], by omega, by go_num, by omega, HFR, HF7, Lib.hid hg7w⟩)
              case measure => first | (simp [intOf]; omega) | ((show ms.length - ((k : Int) + 1).toNat < ms.length - (k : Int).toNat); omega)
     · obtain rfl : k = ms.length := by omega
       obtain ⟨SL, hSL⟩ : ∃ x, [a1, a2, a3] = x := ⟨_, rfl⟩
       have hSn : SL.length = 3 := by rw [← hSL]; rfl
       have HSL := Lib.hid hSL
       have HSX := Lib.hid (show ∀ (k : Nat) (x : List UInt8), SL[k]? = some x → wr.cell? ⟨g, k, none⟩ = some (.string (bs x)) ∧ x.length ≤ 1000 from fun k x hx => by
        have hb := blk_gl HL4.out hgr.out so_
        refine ⟨(blk_cell hb k).trans ?_, ?_⟩
        · rw [show (#[.string (bs a1), .string (bs a2), .string (bs a3)] : Array Value) = (SL.map fun y => Value.string (bs y)).toArray by rw [← hSL]; rfl, List.getElem?_toArray, List.getElem?_map, hx]
          rfl
        · have hm := List.mem_of_getElem? hx
          rw [← hSL] at hm
          simp only [List.mem_cons, List.not_mem_nil, or_false] at hm
          rcases hm with rfl | rfl | rfl <;> assumption)
       have HNT2 := Lib.hid (termsAt_glx HNT.out hgr.out (fun b o c h => by have := (HNB.out b o _ c (by first | exact h | (rw [hNn] at h; exact h))).1; simp; omega))
       obtain ⟨wA, hwA⟩ : ∃ x, x = wr := ⟨_, rfl⟩
       rw [← hwA] at hFo HNT2 HSX hgw hszr ⊢
       have hgwA := hgw
       clear hwA hgr HNT HL4 hgw hSL hlt hk
       go_wp2_with fail
       go_loopw [31] (fun iv wr => ∃ (k n : Nat) (S : List UInt8 → Bool), k ≤ 3 ∧ iv = .int .i64 k ∧ n ≤ 9 + k ∧ Hid (FoAt wr X Y M bh be i e s f k1 k2 d l 0 0 (PL ++ Ml ++ SL.take k) S n) ∧ Hid (GL [bh, be] wA wr)) (fun iv _ => 3 - (intOf iv).toNat)
       case atStart => exact ⟨0, n, S, by omega, rfl, by omega, by rw [List.take_zero, List.append_nil]; exact hFo, Lib.hid (gl_refl _ _)⟩
       case round =>
        clear hFo
        obtain ⟨k, n, S, hk, rfl, hnk, hFo, hgr⟩ := hrel
        have hgw : GL [] w wr := gl_step hgr.out hgwA (fun r hr => .inr (by simp at hr; omega))
        by_cases hlt : k < 3
        · have i1 : (k : Int) < 3 := by omega
          have hkL : k < SL.length := by omega
          have hx : SL[k]? = some SL[k] := List.getElem?_eq_getElem hkL
          obtain ⟨cx, htl⟩ := HSX.out k _ hx
          have c0 := cell_glx cx hgr.out so_
          have HT := Lib.hid (show SL.take (k + 1) = SL.take k ++ [SL[k]] by rw [List.take_add_one, hx]; rfl)
          clear hx cx
          generalize SL[k] = t at *
          go_wp2_with fail
          refine (fo_learn hFo.out t om_ om_ om_ (gok_gl HG0.out hgw si_)).mono ?_
          rintro en w10 ⟨S7, n7, r7, rfl, hF7, hn7, hg7⟩
          rw [List.append_assoc, ← HT.out] at hF7
          have HF7 := Lib.hid hF7
          have hg7w : GL [bh, be] wA w10 := gl_step hg7 hgr.out (fun r hr => .inl hr)
          clear hF7 hg7 c0
          go_wp2_with fail
          go_roundw
          case rel => first | exact ⟨k + 1, n7, S7, by omega, by go_num, by omega, HF7, Lib.hid hg7w⟩ | ((repeat apply Exists.intro); refine ⟨?_, rfl⟩; exact ⟨k + 1, n7, S7, by omega, by go_num, by omega, HF7, Lib.hid hg7w⟩)
          case measure => first | (simp [intOf]; omega) | ((show 3 - ((k : Int) + 1).toNat < 3 - (k : Int).toNat); omega)
        · obtain rfl : k = 3 := by omega
          rw [List.take_of_length_le om_] at hFo
          have HNT3 := Lib.hid (termsAt_glx HNT2.out hgr.out (fun b o c h => by have := (HNB.out b o _ c (by first | exact h | (rw [hNn] at h; exact h))).1; simp; omega))
          have hszr2 := hgr.out.size
          obtain ⟨LL, hLL⟩ : ∃ x, PL ++ Ml ++ SL = x := ⟨_, rfl⟩
          rw [hLL] at hFo
          have HLL := Lib.hid hLL
          obtain ⟨wB, hwB⟩ : ∃ x, x = wr := ⟨_, rfl⟩
          rw [← hwB] at hFo HNT3 hgw hszr2 ⊢
          have hgwB := hgw
          clear hwB hgr HNT2 HSX hgw hlt hk hLL
          go_wp2_with fail
          go_loopw [32, 33] (fun lv iv wr => ∃ (k ca cb n : Nat) (S : List UInt8 → Bool) (F : List (List UInt8)), k ≤ ws.length ∧ iv = .int .i64 k ∧ ca + cb = k ∧ n ≤ 12 + k ∧ Hid (F.length = k) ∧ Hid (OwnT wB.heap.size lv F wr) ∧ Hid (FrOk d l ca cb F) ∧ Hid (FoAt wr X Y M bh be i e s f k1 k2 d l ca cb (LL ++ F) S n) ∧ Hid (GL [X, Y, bh, be] wB wr)) (fun _ iv _ => ws.length - (intOf iv).toNat)
          case atStart => exact ⟨0, 0, 0, n, S, [], by omega, rfl, rfl, by omega, Lib.hid rfl, Lib.hid (ownT_nil _ _), Lib.hid (frOk_nil _ _ _ _), by rw [List.append_nil]; exact hFo, Lib.hid (gl_refl _ _)⟩
          case round =>
           clear hFo
           obtain ⟨k, ca, cb, n, S, F, hk, rfl, hcc, hnk, hFl, hOwn, hFr, hFo, hgr⟩ := hrel
           have hgw : GL [] w wr := gl_step hgr.out hgwB (fun r hr => .inr (by simp at hr; omega))
           have hszr := hgr.out.size
           have gnX : gN ≤ X := by omega
           have gnY : gN ≤ Y := by omega
           by_cases hlt : k < ws.length
           · have i1 : (k : Int) < ws.length := by omega
             obtain ⟨x, hx⟩ : ∃ x, ws[k]? = some x := ⟨ws[k], by simp [hlt]⟩
             obtain ⟨sd, tx⟩ := x
             have htx : tx.length ≤ 200 := h200.out _ (List.mem_of_getElem? hx)
             rcases HWD.out with ⟨_, _, h0, h1⟩ | ⟨b, o, c', h0, hbl, hc⟩
             · subst h1
               simp at hlt
             injection h0 with h01 h02 h03
             subst h01
             subst h03
             have c0 := (cell_glx (hc k sd tx hx).1 hgw si_)
             have c1 := (cell_glx (hc k sd tx hx).2 hgw si_)
             obtain ⟨an, cn, hlv⟩ := ownT_form hOwn.out
             subst hlv
             have hownb := ownT_blk hOwn.out
             clear hx hc h02
             cases sd with
             | false =>
               obtain ⟨fr, hfr, hrd, hfl⟩ := HFD.out ca tx om_ om_
               have HFR := Lib.hid hfr
               have HRD := Lib.hid hrd
               clear hfr hrd
               go_wp2_with fail
               refine (sendOpen tx om_ X (nameL i.toNat) (nameL e.toNat) (80 :: nameL s.toNat) true k1 d ca l cb _ om_ ld _ hFo.out.sx gnX (gok_gl HG0.out hgw si_)).mono ?_
               rintro en w6 hp
               rw [HFR.out] at hp
               obtain ⟨hl6, hp⟩ := hp
               rw [if_pos rfl, HOD.out ca om_] at hp
               obtain ⟨rfl, hx6⟩ := hp
               have HA6 := Lib.hid hx6
               have HB6 := Lib.hid (blk_gl hFo.out.sy hl6 so_)
               have HM6 := Lib.hid (mind_gl hFo.out.mind hl6 so_ so_ so_)
               have HO6 := Lib.hid (ownT_gl hOwn.out hl6 (fun r hr h => by have := (hownb r h).1; simp at hr; omega))
               have hg6 : GL [X, Y, bh, be] wB w6 := gl_step hl6 hgr.out (fun r hr => .inl (by simp at hr; simp [hr]))
               have hgw6 : GL [] w w6 := gl_step hg6 hgwB (fun r hr => .inr (by simp at hr; omega))
               have hsz6 := hl6.size
               clear hx6 c0 c1 hl6
               go_wp2_with fail
               refine (hearFrame fr Y (nameL s.toNat) (nameL f.toNat) (80 :: nameL i.toNat) false k2 l cb d ca om_ ld om_ _ HB6.out gnY (gok_gl HG0.out hgw6 si_)).mono ?_
               rintro en w7 hp
               rw [HRD.out] at hp
               obtain ⟨hl7, rfl, hy7⟩ := hp
               rw [HOD.out ca om_] at hy7
               have HB7 := Lib.hid hy7
               have HA7 := Lib.hid (blk_gl HA6.out hl7 so_)
               have HM7 := Lib.hid (mind_gl HM6.out hl7 so_ so_ so_)
               have HO7 := Lib.hid (ownT_gl HO6.out hl7 (fun r hr h => by have := (hownb r h).1; simp at hr; omega))
               have hg7 : GL [X, Y, bh, be] wB w7 := gl_step hl7 hg6 (fun r hr => .inl (by simp at hr; simp [hr]))
               have hsz7 := hl7.size
               clear hy7 HA6 HB6 HM6 HO6 hl7
               go_wp2_with fail
               have HF8 := Lib.hid (show FoAt (w7.alloc (.cells #[.string (bs []), .string (bs tx), .bool true] 53)) X Y M bh be i e s f k1 k2 d l (ca + 1) cb (LL ++ F) S n from fo_gl (rs := []) ⟨HA7.out, HB7.out, HM7.out⟩ (gl_alloc (gl_refl _ _) _) si_)
               have HO8 := Lib.hid (ownT_gl HO7.out (gl_alloc (gl_refl [] _) (.cells #[.string (bs []), .string (bs tx), .bool true] 53)) si_)
               have hg8 : GL [X, Y, bh, be] wB (w7.alloc (.cells #[.string (bs []), .string (bs tx), .bool true] 53)) := gl_alloc hg7 _
               have hsz8 : w7.heap.size < (w7.alloc (.cells #[.string (bs []), .string (bs tx), .bool true] 53)).heap.size := by simp
               generalize w7.alloc (.cells #[.string (bs []), .string (bs tx), .bool true] 53) = w8 at *
               have hgw8 : GL [] w w8 := gl_step hg8 hgwB (fun r hr => .inr (by simp at hr; omega))
               clear HA7 HB7 HM7 HO7 hFo hOwn
               refine (fo_learn HF8.out fr om_ om_ om_ (gok_gl HG0.out hgw8 si_)).mono ?_
               rintro en w9 ⟨S9, n9, r9, rfl, hF9, hn9, hg9⟩
               rw [List.append_assoc] at hF9
               have HF9 := Lib.hid hF9
               have HO9 := Lib.hid (ownT_gl HO8.out hg9 (fun r hr h => by have := (hownb r h).1; simp at hr; omega))
               have hg9w : GL [X, Y, bh, be] wB w9 := gl_step hg9 hg8 (fun r hr => .inl (by simp at hr; rcases hr with h | h <;> simp [h]))
               have hsz9 := hg9.size
               have hown9 := ownT_blk HO9.out
               have HFO := Lib.hid (frOk_a hFr.out HFR.out)
               clear hF9 hg9 HO8 HF8 hownb
               go_wp2_with (at_builtin; go_must (refine wpList_appT rfl _ _ rfl wB.heap.size (.slice an F.length cn) F fr w9 _ rfl rfl rfl HO9.out (by have := hFl.out; omega) om_ ?_; (intro g5 c5 w10 hO5 hg5 hn5); (have HO5 := Lib.hid hO5); (have HG5 := Lib.hid hg5)))
               have hg10 : GL [X, Y, bh, be] wB w10 := gl_step HG5.out hg9w (fun r hr => .inr (by rw [Option.mem_toList] at hr; exact (hown9 r hr).1))
               have HF10 := Lib.hid (fo_gl HF9.out HG5.out (fun r hr => by rw [Option.mem_toList] at hr; have := (hown9 r hr).1; omega))
               have HLN := Lib.hid (show (F ++ [fr]).length = k + 1 by have := hFl.out; simp; omega)
               have HO10 := Lib.hid (show OwnT wB.heap.size (.slice (some ⟨g5, 0, none⟩) (F.length + 1) c5) (F ++ [fr]) w10 from HO5.out)
               clear hO5 hg5 HG5 HO5 HF9 HO9 hn5
               go_roundw
               case rel => first | exact ⟨k + 1, ca + 1, cb, n9, S9, F ++ [fr], by omega, by go_num, by omega, by omega, HLN, HO10, HFO, HF10, Lib.hid hg10⟩ | ((repeat apply Exists.intro); refine ⟨?_, rfl⟩; exact ⟨k + 1, ca + 1, cb, n9, S9, F ++ [fr], by omega, by go_num, by omega, by omega, HLN, HO10, HFO, HF10, Lib.hid hg10⟩)
               case measure => first | (simp [intOf]; omega) | ((show ws.length - ((k : Int) + 1).toNat < ws.length - (k : Int).toNat); omega)
             | true =>
               obtain ⟨fr, hfr, hrd, hfl⟩ := HFL.out cb tx om_ om_
               have HFR := Lib.hid hfr
               have HRD := Lib.hid hrd
               clear hfr hrd
               go_wp2_with fail
               refine (sendOpen tx om_ Y (nameL s.toNat) (nameL f.toNat) (80 :: nameL i.toNat) false k2 l cb d ca _ om_ ll _ hFo.out.sy gnY (gok_gl HG0.out hgw si_)).mono ?_
               rintro en w6 hp
               rw [HFR.out] at hp
               obtain ⟨hl6, hp⟩ := hp
               rw [if_pos rfl, HOL.out cb om_] at hp
               obtain ⟨rfl, hx6⟩ := hp
               have HA6 := Lib.hid hx6
               have HB6 := Lib.hid (blk_gl hFo.out.sx hl6 so_)
               have HM6 := Lib.hid (mind_gl hFo.out.mind hl6 so_ so_ so_)
               have HO6 := Lib.hid (ownT_gl hOwn.out hl6 (fun r hr h => by have := (hownb r h).1; simp at hr; omega))
               have hg6 : GL [X, Y, bh, be] wB w6 := gl_step hl6 hgr.out (fun r hr => .inl (by simp at hr; simp [hr]))
               have hgw6 : GL [] w w6 := gl_step hg6 hgwB (fun r hr => .inr (by simp at hr; omega))
               have hsz6 := hl6.size
               clear hx6 c0 c1 hl6
               go_wp2_with fail
               refine (hearFrame fr X (nameL i.toNat) (nameL e.toNat) (80 :: nameL s.toNat) true k1 d ca l cb om_ ll om_ _ HB6.out gnX (gok_gl HG0.out hgw6 si_)).mono ?_
               rintro en w7 hp
               rw [HRD.out] at hp
               obtain ⟨hl7, rfl, hy7⟩ := hp
               rw [HOL.out cb om_] at hy7
               have HB7 := Lib.hid hy7
               have HA7 := Lib.hid (blk_gl HA6.out hl7 so_)
               have HM7 := Lib.hid (mind_gl HM6.out hl7 so_ so_ so_)
               have HO7 := Lib.hid (ownT_gl HO6.out hl7 (fun r hr h => by have := (hownb r h).1; simp at hr; omega))
               have hg7 : GL [X, Y, bh, be] wB w7 := gl_step hl7 hg6 (fun r hr => .inl (by simp at hr; simp [hr]))
               have hsz7 := hl7.size
               clear hy7 HA6 HB6 HM6 HO6 hl7
               go_wp2_with fail
               have HF8 := Lib.hid (show FoAt (w7.alloc (.cells #[.string (bs []), .string (bs tx), .bool true] 53)) X Y M bh be i e s f k1 k2 d l ca (cb + 1) (LL ++ F) S n from fo_gl (rs := []) ⟨HB7.out, HA7.out, HM7.out⟩ (gl_alloc (gl_refl _ _) _) si_)
               have HO8 := Lib.hid (ownT_gl HO7.out (gl_alloc (gl_refl [] _) (.cells #[.string (bs []), .string (bs tx), .bool true] 53)) si_)
               have hg8 : GL [X, Y, bh, be] wB (w7.alloc (.cells #[.string (bs []), .string (bs tx), .bool true] 53)) := gl_alloc hg7 _
               have hsz8 : w7.heap.size < (w7.alloc (.cells #[.string (bs []), .string (bs tx), .bool true] 53)).heap.size := by simp
               generalize w7.alloc (.cells #[.string (bs []), .string (bs tx), .bool true] 53) = w8 at *
               have hgw8 : GL [] w w8 := gl_step hg8 hgwB (fun r hr => .inr (by simp at hr; omega))
               clear HA7 HB7 HM7 HO7 hFo hOwn
               refine (fo_learn HF8.out fr om_ om_ om_ (gok_gl HG0.out hgw8 si_)).mono ?_
               rintro en w9 ⟨S9, n9, r9, rfl, hF9, hn9, hg9⟩
               rw [List.append_assoc] at hF9
               have HF9 := Lib.hid hF9
               have HO9 := Lib.hid (ownT_gl HO8.out hg9 (fun r hr h => by have := (hownb r h).1; simp at hr; omega))
               have hg9w : GL [X, Y, bh, be] wB w9 := gl_step hg9 hg8 (fun r hr => .inl (by simp at hr; rcases hr with h | h <;> simp [h]))
               have hsz9 := hg9.size
               have hown9 := ownT_blk HO9.out
               have HFO := Lib.hid (frOk_b hFr.out HFR.out)
               clear hF9 hg9 HO8 HF8 hownb
               go_wp2_with (at_builtin; go_must (refine wpList_appT rfl _ _ rfl wB.heap.size (.slice an F.length cn) F fr w9 _ rfl rfl rfl HO9.out (by have := hFl.out; omega) om_ ?_; (intro g5 c5 w10 hO5 hg5 hn5); (have HO5 := Lib.hid hO5); (have HG5 := Lib.hid hg5)))
               have hg10 : GL [X, Y, bh, be] wB w10 := gl_step HG5.out hg9w (fun r hr => .inr (by rw [Option.mem_toList] at hr; exact (hown9 r hr).1))
               have HF10 := Lib.hid (fo_gl HF9.out HG5.out (fun r hr => by rw [Option.mem_toList] at hr; have := (hown9 r hr).1; omega))
               have HLN := Lib.hid (show (F ++ [fr]).length = k + 1 by have := hFl.out; simp; omega)
               have HO10 := Lib.hid (show OwnT wB.heap.size (.slice (some ⟨g5, 0, none⟩) (F.length + 1) c5) (F ++ [fr]) w10 from HO5.out)
               clear hO5 hg5 HG5 HO5 HF9 HO9 hn5
               go_roundw
               case rel => first | exact ⟨k + 1, ca, cb + 1, n9, S9, F ++ [fr], by omega, by go_num, by omega, by omega, HLN, HO10, HFO, HF10, Lib.hid hg10⟩ | ((repeat apply Exists.intro); refine ⟨?_, rfl⟩; exact ⟨k + 1, ca, cb + 1, n9, S9, F ++ [fr], by omega, by go_num, by omega, by omega, HLN, HO10, HFO, HF10, Lib.hid hg10⟩)
               case measure => first | (simp [intOf]; omega) | ((show ws.length - ((k : Int) + 1).toNat < ws.length - (k : Int).toNat); omega)
           · obtain rfl : k = ws.length := by omega
             have HPA := Lib.hid (HSF.out Ml F (LL ++ F) ca cb S (fun t ht hr => by rw [HNL.out]; exact hfree.out t ht hr) om_ om_ hFr.out (fun t ht => by
              rw [HPL.out, HSL.out]
              rw [← HLL.out] at ht
              simp only [List.mem_append] at ht
              rcases ht with ((h | h) | h) | h
              · exact .inl h
              · exact .inr (.inl h)
              · exact .inr (.inr (.inl h))
              · exact .inr (.inr (.inr h))) hFo.out.mind.least)
             have HN2 := Lib.hid (show ∀ nm ∈ NL, kn S nm = false from fun nm hnm => HPA.out.1 nm (by rw [HNL.out]; exact hnm))
             have HNT4 := Lib.hid (termsAt_glx HNT3.out hgr.out (fun b o c h => by have := (HNB.out b o _ c (by first | exact h | (rw [hNn] at h; exact h))).1; simp; omega))
             obtain ⟨an, cn, hlv⟩ := ownT_form hOwn.out
             subst hlv
             obtain ⟨wC, hwC⟩ : ∃ x : World, x = wr := ⟨_, rfl⟩
             subst hwC
             have hgwC := hgw
             clear HNT3 hgr hgw hlt hk hOwn
             go_wp2_with fail
             go_loopw [253] (fun iv wr => ∃ j : Nat, j ≤ 4 ∧ iv = .int .i64 j ∧ Hid (GL [] wC wr)) (fun iv _ => 4 - (intOf iv).toNat)
             case atStart => exact ⟨0, by omega, rfl, Lib.hid (gl_refl _ _)⟩
             case round =>
              obtain ⟨j, hj, rfl, hgq⟩ := hrel
              have hgwq : GL [] w wr := gl_step hgq.out hgwC si_
              have HMq := Lib.hid (mind_gl hFo.out.mind hgq.out si_ si_ si_)
              by_cases hltj : j < 4
              · have j1 : (j : Int) < 4 := by omega
                have hjn : j < NL.length := by omega
                have hxj : NL[j]? = some NL[j] := List.getElem?_eq_getElem hjn
                have hnr := HNR.out NL[j] (List.getElem_mem _)
                have HKN := Lib.hid (HN2.out NL[j] (List.getElem_mem _))
                rcases termsAt_open (termsAt_glx HNT4.out hgq.out si_) with ⟨an', cn', hen, h0 | ⟨bn, on, rfl, hbln, hcn⟩⟩
                · rw [h0] at hjn; simp at hjn
                injection hen with hen1 hen2 hen3
                subst hen1 hen3
                have c1 := hcn j _ hxj
                clear hxj hcn hen2
                generalize NL[j] = nm at *
                go_wp2_with fail
                refine (dKnows M bh be n _ S nm om_ _ (gok_gl HG0.out hgwq si_) HMq.out).mono ?_
                rintro en w10 ⟨rfl, hb10⟩
                rw [show (right nm && kn S nm) = false by rw [HKN.out, Bool.and_false]]
                have hgq2 : GL [] wC w10 := gl_below hb10 hgq.out
                clear hb10 c1
                go_wp2_with fail
                go_roundw
                case rel => first | exact ⟨j + 1, by omega, by go_num, Lib.hid hgq2⟩ | ((repeat apply Exists.intro); refine ⟨?_, rfl⟩; exact ⟨j + 1, by omega, by go_num, Lib.hid hgq2⟩)
                case measure => first | (simp [intOf]; omega) | ((show 4 - ((j : Int) + 1).toNat < 4 - (j : Int).toNat); omega)
              · obtain rfl : j = 4 := by omega
                obtain ⟨u, hu, _, hul⟩ := HFD.out ca tr om_ om_
                obtain ⟨v, hv, _, hvl⟩ := HFL.out cb tr om_ om_
                have HU := Lib.hid hu
                have HV := Lib.hid hv
                have HKU := Lib.hid (HPA.out.2.1 tr u hu)
                have HKV := Lib.hid (HPA.out.2.2 tr v hv)
                have HXq := Lib.hid (blk_gl hFo.out.sx hgq.out si_)
                have HYq := Lib.hid (blk_gl hFo.out.sy hgq.out si_)
                obtain ⟨wD, hwD⟩ : ∃ x : World, x = wr := ⟨_, rfl⟩
                subst hwD
                clear hu hv hFo hgq HPA HN2 HNT4
                go_wp2_with fail
                refine (sendOpen tr om_ X (nameL i.toNat) (nameL e.toNat) (80 :: nameL s.toNat) true k1 d ca l cb _ om_ ld _ HXq.out gnX (gok_gl HG0.out hgwq si_)).mono ?_
                rintro en w6 hp
                rw [HU.out] at hp
                obtain ⟨hl6, hp⟩ := hp
                rw [if_pos rfl] at hp
                obtain ⟨rfl, hx6⟩ := hp
                have HY6 := Lib.hid (blk_gl HYq.out hl6 so_)
                have HM6 := Lib.hid (mind_gl HMq.out hl6 so_ so_ so_)
                have hgw6 : GL [] w w6 := gl_step hl6 hgwq (fun r hr => .inr (by simp at hr; omega))
                clear hx6 hl6 HXq HYq HMq
                go_wp2_with fail
                refine (sendOpen tr om_ Y (nameL s.toNat) (nameL f.toNat) (80 :: nameL i.toNat) false k2 l cb d ca _ om_ ll _ HY6.out gnY (gok_gl HG0.out hgw6 si_)).mono ?_
                rintro en w7 hp
                rw [HV.out] at hp
                obtain ⟨hl7, hp⟩ := hp
                rw [if_pos rfl] at hp
                obtain ⟨rfl, hx7⟩ := hp
                have HM7 := Lib.hid (mind_gl HM6.out hl7 so_ so_ so_)
                have hgw7 : GL [] w w7 := gl_step hl7 hgw6 (fun r hr => .inr (by simp at hr; omega))
                clear hx7 hl7 HY6 HM6
                go_wp2_with fail
                refine (dKnows M bh be n _ S u om_ _ (gok_gl HG0.out hgw7 si_) HM7.out).mono ?_
                rintro en w8 ⟨rfl, hb8⟩
                rw [show (right u && kn S u) = false by rw [HKU.out, Bool.and_false]]
                have HM8 := Lib.hid (mind_below HM7.out hb8)
                have hgw8 : GL [] w w8 := gl_below hb8 hgw7
                clear hb8 HM7
                go_wp2_with fail
                refine (dKnows M bh be n _ S v om_ _ (gok_gl HG0.out hgw8 si_) HM8.out).mono ?_
                rintro en w9 ⟨rfl, hb9⟩
                rw [show (right v && kn S v) = false by rw [HKV.out, Bool.and_false]]
                have hgw9 : GL [] w w9 := gl_below hb9 hgw8
                have hsz9 := hgw9.size
                clear hb9 HM8
                go_wp2_with fail
                go_loopw [46] (fun iv wr => iv = .int .i64 0 ∧ Hid (GL [] w wr)) (fun iv _ => 0)
                case atStart => exact ⟨rfl, Lib.hid hgw9⟩
                case round =>
                 obtain ⟨rfl, hgz⟩ := hrel
                 have HFL2 := Lib.hid hFl.out
                 by_cases hz : ws.length = 0
                 · have z0 : F.length = 0 := by have := hFl.out; omega
                   rw [z0]
                   go_wp2_with fail
                   refine (lWorks21 _ (gok_gl HG0.out hgz.out si_)).mono ?_
                   rintro en v9 ⟨rfl, hb⟩
                   go_wp2_with fail
                   go_ret
                   exact ⟨rfl, gl_to_below (gl_below hb hgz.out)⟩
                 · have z1 : (0 : Int) < F.length := by have := hFl.out; omega
                   obtain ⟨t, ht, hrd, htl⟩ := HFD.out 0 [120] om_ de_
                   have HT := Lib.hid ht
                   have HRD := Lib.hid hrd
                   have HRO := Lib.hid (readM_other (c' := 1) om_ om_ ht om_)
                   clear ht hrd
                   go_wp2_with fail
                   refine (lOpened i e s f pi ri2 pe re2 ps rs2 pf rf2 _ _ _ _ _ _ _ HK.out _ (gok_gl HG0.out hgz.out si_)).mono ?_
                   rintro en v1 hp
                   obtain ⟨X2, Y2, g2, geX2, geY2, geL2, neXY2, rfl, hx1, hy1, hl1, hb1⟩ := hp
                   have HX1 := Lib.hid hx1
                   have HY1 := Lib.hid hy1
                   have hgv1 : GL [] w v1 := gl_below hb1 hgz.out
                   have hszz := hgz.out.size
                   clear hx1 hy1 hl1 hb1
                   go_wp2_with fail
                   refine (sendOpen [120] de_ X2 (nameL i.toNat) (nameL e.toNat) (80 :: nameL s.toNat) true k1 d 0 l 0 _ om_ ld _ HX1.out om_ (gok_gl HG0.out hgv1 si_)).mono ?_
                   rintro en v2 hp
                   rw [HT.out] at hp
                   obtain ⟨hl2, hp⟩ := hp
                   rw [if_pos rfl] at hp
                   obtain ⟨rfl, hx2⟩ := hp
                   have HY2 := Lib.hid (blk_gl HY1.out hl2 so_)
                   have hgv2 : GL [] w v2 := gl_step hl2 hgv1 (fun r hr => .inr (by simp at hr; omega))
                   clear hx2 hl2 HX1 HY1
                   go_wp2_with fail
                   refine (hearFrame t Y2 (nameL s.toNat) (nameL f.toNat) (80 :: nameL i.toNat) false k2 l 0 d 0 om_ ld om_ _ HY2.out om_ (gok_gl HG0.out hgv2 si_)).mono ?_
                   rintro en v3 hp
                   rw [HRD.out] at hp
                   obtain ⟨hl3, rfl, hy3⟩ := hp
                   rw [HOD.out 0 om_] at hy3
                   have HY3 := Lib.hid hy3
                   have hgv3 : GL [] w v3 := gl_step hl3 hgv2 (fun r hr => .inr (by simp at hr; omega))
                   clear hy3 hl3 HY2
                   go_wp2_with fail
                   refine (hearFrame t Y2 (nameL s.toNat) (nameL f.toNat) (80 :: nameL i.toNat) false k2 l 0 d 1 om_ ld om_ _ HY3.out om_ (gok_gl HG0.out hgv3 si_)).mono ?_
                   rintro en v4 hp
                   rw [HRO.out] at hp
                   obtain ⟨hl4, rfl, hy4⟩ := hp
                   have hgv4 := Lib.hid (show GL [] w v4 from gl_step hl4 hgv3 (fun r hr => .inr (by simp at hr; omega)))
                   obtain ⟨q1, q2, q3, q4, q5, q6, q7, q8, q9, q10, hd4⟩ := hy4
                   have HD4 := Lib.hid hd4
                   clear hd4 hl4 HY3
                   go_wp2_with fail
                   refine (openAt Y2 _ _ _ _ _ _ _ _ _ _ _ _ _ HD4.out).mono ?_
                   rintro en v5 ⟨rfl, rfl⟩
                   rw [Bool.not_true, Bool.and_false]
                   go_wp2_with fail
                   refine (lWorks21 _ (gok_gl HG0.out hgv4.out si_)).mono ?_
                   rintro en v6 ⟨rfl, hb⟩
                   go_wp2_with fail
                   go_ret
                   exact ⟨rfl, gl_to_below (gl_below hb hgv4.out)⟩
theorem lSessionForges (i e s f : Int) (ad : Option Addr) (c : Nat) (ws : List (Bool × List UInt8)) (ad2 : Option Addr) (c2 : Nat) (ms : List (List UInt8)) (tr : List UInt8) (ri : -9223372036854775808 ≤ i) (ri2 : i ≤ 9223372036854775807) (re : -9223372036854775808 ≤ e) (re2 : e ≤ 9223372036854775807) (rs : -9223372036854775808 ≤ s) (rs2 : s ≤ 9223372036854775807) (rf : -9223372036854775808 ≤ f) (rf2 : f ≤ 9223372036854775807) (hws : ws.length ≤ 9223372036854775807) (hwt : ∀ x ∈ ws, x.2.length ≤ 9223372036854775807) (hml : ms.length ≤ 9000000000000000000) (hmt : ∀ t ∈ ms, t.length ≤ 9000000000000000000) (htl : tr.length ≤ 9000000000000000000) (w : World) (hW : WordsAt (.slice ad ws.length c) ws w) (hM : TermsAt (.slice ad2 ms.length c2) ms w) (hG : GOk w) :
  Calls Tryz.prog 6 #[.int .i64 i, .int .i64 e, .int .i64 s, .int .i64 f, .slice ad ws.length c, .slice ad2 ms.length c2, .string (bs tr)] w fun en w' => en = .returned (.bool true) ∧ Below w.heap.size w w' := by
 by_cases h : Four i e s f ws ms tr
 · exact lForgesYes i e s f ad c ws ad2 c2 ms tr ri ri2 re re2 rs rs2 rf rf2 h hmt w hW hM hG
 · exact lForgesNo i e s f ad c ws ad2 c2 ms tr ri ri2 re re2 rs rs2 rf rf2 hws hwt hml htl h w hW hG
end Go.Proofs.YtaaiaahkakkleaaGreatDoor
