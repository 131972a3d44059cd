/- The document's layer 21: a frame, made. -/
import Derived.Test.YtaaiaahkakkleaaGreatDoorR21D
set_option maxRecDepth 100000
set_option maxHeartbeats 2000000
set_option linter.unusedSimpArgs false
set_option linter.unusedVariables false
namespace Go.Proofs.YtaaiaahkakkleaaGreatDoor
open Go.RowKit
theorem ownT_one {lo g : Nat} {w : World} {t : List UInt8} (hb : lo ≤ g) (hg : w.heap[g]? = some (.cells #[.string (bs t)] 22 (0, 0))) : OwnT lo (.slice (some ⟨g, 0, none⟩) 1 1) [t] w := own_one hb hg
theorem qFrame (key : List UInt8) (c : Nat) (s : List UInt8) (hk : key.length ≤ 9000000000000000000) (hc : c ≤ 99) (hs : s.length ≤ 1000000000) (w : World) :
  Calls Tryz.prog 82 #[.agg #[.string (bs key), .int .i64 c], .string (bs s)] w fun e w' => e = .returned (.tuple #[.string (bs (makeM key c s).1), .bool ((makeM key c s).2 == 0)]) ∧ Below w.heap.size w w' := by
 have hdl : (Lib.decDigits c).length ≤ 20 := dec_len20 c om_
 have HT := Lib.hid (textT_ok (Lib.decDigits c) om_)
 go_enter Tryz.func82, Tryz.ntmps82
 have hg0 : GL [] w w := gl_refl _ _
 have hs0 : w.heap.size ≤ w.heap.size := Nat.le_refl _
 go_wp2_with fail
 have HW1 : Hid ((w.alloc (.cells #[.string (bs key), .int .i64 c] 83)).heap[w.heap.size]? = some (.cells #[.string (bs key), .int .i64 c] 83 (0, 0))) := by
  have h := blk_new w (.cells #[.string (bs key), .int .i64 c] 83)
  exact h
 have hg1 : GL [] w (w.alloc (.cells #[.string (bs key), .int .i64 c] 83)) := (gl_alloc hg0 (.cells #[.string (bs key), .int .i64 c] 83))
 have geW : w.heap.size ≤ w.heap.size := by have := hg0.size; omega
 generalize (w.alloc (.cells #[.string (bs key), .int .i64 c] 83)) = w1 at *
 generalize w.heap.size = W at *
 have hs1 := hg1.size
 go_wp2_with fail
 refine (qDigits c hc _).mono ?_
 rintro e w2 ⟨rfl, hb2⟩
 have HW2 := Lib.hid (blk_below HW1.out hb2 (blk_lt HW1.out))
 have hg2 : GL [] w w2 := gl_below hb2 hg1
 have hs2 := hg2.size
 go_wp2_with fail
 refine (refText (Lib.decDigits c) om_ _).mono ?_
 rintro e w3 ⟨rfl, hb3⟩
 rw [HT.out]
 have HW3 := Lib.hid (blk_below HW2.out hb3 (blk_lt HW2.out))
 have hg3 : GL [] w w3 := gl_below hb3 hg2
 have hs3 := hg3.size
 obtain ⟨dd, hdd⟩ : ∃ x, textL (Lib.decDigits c) = x := ⟨_, rfl⟩
 have hddl : dd.length ≤ 100 := by rw [← hdd]; have := (textL_len (Lib.decDigits c) om_).1; omega
 rw [hdd]
 have HDD := Lib.hid hdd
 clear hdd
 go_wp2_with fail
 have HO := Lib.hid (ownT_one (lo := w3.heap.size) (Nat.le_refl _) (blk_new w3 (.cells #[.string (bs dd)] 22)))
 have HW4 := Lib.hid (blk_alloc HW3.out (.cells #[.string (bs dd)] 22))
 have hlW := blk_lt HW3.out
 have hg4 : GL [] w (w3.alloc (.cells #[.string (bs dd)] 22)) := gl_alloc hg3 _
 have hsz3 : w3.heap.size < (w3.alloc (.cells #[.string (bs dd)] 22)).heap.size := by simp
 generalize w3.alloc (.cells #[.string (bs dd)] 22) = w4 at *
 have hgeB := hg3.size
 generalize w3.heap.size = B at *
 clear hg1 hg2 hg3 HW1 HW2 HW3 hb2 hb3 HT
 go_loopw [8, 1] (fun lv sv wr => ∃ (done : List (List UInt8)) (rest : List UInt8), Hid (PProg s done rest) ∧ sv = .string (bs rest) ∧ Hid (OwnT B lv (dd :: done.map textL) wr) ∧ Hid (wr.heap[W]? = some (.cells #[.string (bs key), .int .i64 c] 83 (0, 0))) ∧ Hid (GL [] w wr) ∧ B < wr.heap.size) (fun _ sv _ => match sv with | .string b => b.size | _ => 0)
 case atStart => exact ⟨[], s, pprog_start s, rfl, HO, HW4, Lib.hid hg4, hsz3⟩
 case round =>
  obtain ⟨done, rest, HPR, rfl, HOr, HWr, hgr, hszr⟩ := hrel
  have hrl : rest.length ≤ s.length := HPR.out.2.1
  have hdn : done.length + rest.length ≤ s.length := HPR.out.2.2
  obtain ⟨an, cn, hlv⟩ := ownT_form HOr.out
  subst hlv
  have hown := ownT_blk HOr.out
  have hll : (dd :: done.map textL).length = done.length + 1 := by simp
  by_cases hr : rest = []
  · subst hr
    obtain ⟨ls, hls⟩ : ∃ ls, dd :: done.map textL = ls := ⟨_, rfl⟩
    have hfr : frameL c s = ls := by unfold frameL; rw [pprog_end HPR.out, HDD.out, hls]
    rw [hls] at HOr hown hll
    have hlsl : ∀ x ∈ ls, x.length ≤ 9000000000000000000 := by
     intro x hx
     rw [← hls] at hx
     rcases List.mem_cons.1 hx with rfl | hx
     · omega
     · obtain ⟨y, hy, rfl⟩ := List.mem_map.1 hx
       have h1 : y ∈ pieces s.length s := by rw [pprog_end HPR.out]; exact hy
       have h2 := pieces_each _ _ y h1
       have := (textL_len y h2).1; omega
    obtain ⟨tp, gt, htp⟩ : ∃ x g, tupleT ls = (x, g) := ⟨_, _, rfl⟩
    obtain ⟨bx, gb, hbx⟩ : ∃ x g, twoT 66 key tp = (x, g) := ⟨_, _, rfl⟩
    have htl : tp.length ≤ 9000000000000000000 := by have := tupleT_len ls; rw [htp] at this; simp at this; omega
    have H : Hid (makeM key c s = (bx, mkE gt gb)) := by show makeM _ _ _ = _; simp only [makeM, hfr, htp, hbx]
    have HBAD : Hid (gt ≠ 0 → bx = []) := fun h => by
     have h1 : tp = [] := by have := tupleT_bad (ls := ls) (by rw [htp]; exact h); rw [htp] at this; exact this
     have h2 : (twoT 66 key tp).2 ≠ 0 := fun h0 => (twoT_parts h0).2 h1
     have := twoT_bad h2
     rw [hbx] at this
     exact this
    have E1 := Lib.hid htp
    have E2 := Lib.hid hbx
    obtain ⟨a2, c3, hts, htc⟩ := termsAt_open (ownT_at HOr.out)
    injection hts with hts1 hts2 hts3
    subst hts1 hts3
    rcases htc with h0 | ⟨g, o, rfl, hgw, hcell⟩
    · exfalso; rw [h0] at hll; simp at hll
    have hlb0 : ls.length ≤ 2000000000 := by omega
    have HLB := Lib.hid hlb0
    clear hlb0
    have HC := Lib.hid hcell
    have hgr0 : GL [] w wr := hgr.out
    clear hls hfr htp hbx hcell hts2 hown HPR hrl hdn HOr
    have f0 := blk_cell HWr.out
    have f1 := blk_free HWr.out
    have f2 := blk_lt HWr.out
    go_wp2_with fail
    clear f0 f1 f2
    have hlb := HLB.out
    have hcall := refTuple ls g o cn hlsl om_ wr hgw (fun j z hz => HC.out j z hz)
    rw [hll] at hcall
    refine hcall.mono ?_
    clear hcall
    rintro e w5 ⟨rfl, hb5⟩
    rw [E1.out]
    have HW5 := Lib.hid (blk_below HWr.out hb5 (blk_lt HWr.out))
    have hg5 : GL [] w w5 := gl_below hb5 hgr0
    clear hb5 HWr
    have f0 := blk_cell HW5.out
    have f1 := blk_free HW5.out
    have f2 := blk_lt HW5.out
    by_cases hgt : gt = 0
    · subst hgt
      go_wp2_with fail
      refine (ref_two 66 66 rfl key tp hk htl _).mono ?_
      rintro e w6 ⟨rfl, hb6⟩
      rw [E2.out]
      have hg6 : GL [] w w6 := gl_below hb6 hg5
      clear hb6 f0 f1 f2
      go_wp2_with fail
      go_ret2
      exact ⟨by rw [H.out]; first | rfl | (simp [mkE]; done), gl_to_below hg6⟩
    · have b1 : (gt != 0) = true := by simpa using hgt
      have b2 : (mkE gt gb == 0) = false := by
       rw [beq_eq_false_iff_ne]
       exact fun h => hgt (mkE_zero.1 h).1
      have HB := Lib.hid (HBAD.out hgt)
      go_wp2_with fail
      go_ret2
      exact ⟨by rw [H.out]; simp only [b2, HB.out]; first | rfl | (simp; done), gl_to_below hg5⟩
  · have hpos : 1 ≤ rest.length := by
     cases rest with
     | nil => exact absurd rfl hr
     | cons _ _ => simp
    have hpi : (0 : Int) < (rest.length : Int) := by omega
    have e1 : List.take (min (rest.length : Int) 4096).toNat rest = rest.take 4096 := by
     rw [show (min (rest.length : Int) 4096).toNat = min rest.length 4096 by omega, ← List.take_take]
     exact List.take_of_length_le so_
    have e2 : List.take (rest.length - (min (rest.length : Int) 4096).toNat) (List.drop (min (rest.length : Int) 4096).toNat rest) = rest.drop 4096 := by
     rw [show (min (rest.length : Int) 4096).toNat = min rest.length 4096 by omega, List.take_of_length_le si_]
     by_cases h4 : rest.length ≤ 4096
     · rw [Nat.min_eq_left h4, List.drop_length, List.drop_of_length_le h4]
     · rw [Nat.min_eq_right om_]
    have E2 := Lib.hid e2
    clear e2
    have hpl : (rest.take 4096).length ≤ 4096 := by simp; omega
    have HTP := Lib.hid (textT_ok (rest.take 4096) hpl)
    have hpl2 : (rest.take 4096).length ≤ 9000000000000000000 := by omega
    obtain ⟨pc, hpc⟩ : ∃ pc, rest.take 4096 = pc := ⟨_, rfl⟩
    rw [hpc] at e1 HTP hpl2
    have HPC := Lib.hid hpc
    clear hpc hpl
    go_wp2_with fail
    refine (refText pc hpl2 _).mono ?_
    rintro e w5 ⟨rfl, hb5⟩
    rw [HTP.out]
    obtain ⟨ls, hls⟩ : ∃ ls, dd :: done.map textL = ls := ⟨_, rfl⟩
    rw [hls] at HOr hown hll
    have HLL := Lib.hid hll
    have HO5 := Lib.hid (ownT_below HOr.out hb5)
    have HW5 := Lib.hid (blk_below HWr.out hb5 (blk_lt HWr.out))
    have hg5 : GL [] w w5 := gl_below hb5 hgr.out
    have hsz5 := hb5.size
    have hlW5 := blk_lt HWr.out
    clear hb5 hll
    go_wp2_with (at_builtin; go_must (refine wpList_appT rfl _ _ rfl B (.slice an ls.length cn) ls (textL pc) w5 _ rfl rfl rfl HO5.out (by have := HLL.out; omega) om_ ?_; (intro g5 c5 w6 hO6 hg6 hn6); (have HO6 := Lib.hid hO6); (have HG6 := Lib.hid hg6)))
    have HW6 := Lib.hid (blk_gl HW5.out HG6.out (fun hm => by rw [Option.mem_toList] at hm; have := (hown _ hm).1; omega))
    have hg7 : GL [] w w6 := gl_step HG6.out hg5 (fun r hr2 => .inr (by rw [Option.mem_toList] at hr2; have := (hown _ hr2).1; have := hgeB; omega))
    have hsz6 := HG6.out.size
    have hpn := pprog_next HPR.out hr
    rw [HPC.out] at hpn
    have HPN := Lib.hid hpn
    have HO7 := Lib.hid (show OwnT B (.slice (some ⟨g5, 0, none⟩) (ls.length + 1) c5) (dd :: (done ++ [pc]).map textL) w6 by
     have e3 : dd :: (done ++ [pc]).map textL = ls ++ [textL pc] := by rw [← hls]; simp
     rw [e3]; exact HO6.out)
    clear hO6 hg6 hn6 hpn HO6 HO5 HW5
    go_roundw
    case rel => first | exact ⟨done ++ [pc], rest.drop 4096, HPN, by rw [E2.out], HO7, HW6, Lib.hid hg7, by omega⟩ | ((repeat apply Exists.intro); refine ⟨?_, rfl⟩; exact ⟨done ++ [pc], rest.drop 4096, HPN, by rw [E2.out], HO7, HW6, Lib.hid hg7, by omega⟩)
    case measure =>
     rw [E2.out]
     show (bs (rest.drop 4096)).size < (bs rest).size
     rw [bs_size, bs_size, List.length_drop]
     omega
end Go.Proofs.YtaaiaahkakkleaaGreatDoor
