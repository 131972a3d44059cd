/- The document's layer 3: how many new ones a term gives; with them. -/
import Derived.Test.YtdipkblmcloifaaGreatDoorR3B
set_option linter.unusedSimpArgs false
set_option linter.unusedVariables false
namespace Go.Proofs.YtdipkblmcloifaaGreatDoor
open Go.RowKit

theorem kids_len {t : List UInt8} {x : Sh} (h : rt t = some x) : x.kids.length ≤ 16384 := by
  have hs := rt_sum h
  have hk := rt_kids h
  have hl := (right_len (rt_right h)).2
  have : ∀ ks : List (List UInt8), (∀ k ∈ ks, right k = true) → ks.length ≤ sumL ks := by
    intro ks hks
    induction ks with
    | nil => simp
    | cons k r ih =>
      have h1 := (right_len (hks k (by simp))).1
      have h2 := ih (fun y hy => hks y (by simp [hy]))
      simp only [List.length_cons, sumL]
      omega
  have := this x.kids (fun k hk2 => (hk k hk2).1)
  omega
theorem parts_few (M : List (List UInt8)) (t : List UInt8) : (partsR M t).length ≤ 16384 := by
  unfold partsR
  split
  · simp
  · rename_i x hx
    have := kids_len hx
    split
    · exact this
    · split
      · rw [List.length_drop]; omega
      · simp
theorem parts_short (M : List (List UInt8)) (t : List UInt8) : ∀ k ∈ partsR M t, k.length ≤ 16384 := by
  unfold partsR
  split
  · simp
  · rename_i x hx
    have hk := rt_kids hx
    split
    · exact fun k h => (right_len (hk k h).1).2
    · split
      · exact fun k h => (right_len (hk k (List.mem_of_mem_drop h)).1).2
      · simp
theorem filt_snoc (q : List UInt8 → Bool) (l : List (List UInt8)) (i : Nat) (x : List UInt8) (h : l[i]? = some x) : ((l.take (i + 1)).filter q).length = ((l.take i).filter q).length + (if q x = true then 1 else 0) := by
  rw [List.take_add_one, h, List.filter_append, List.length_append]
  cases hq : q x <;> simp [hq]
theorem fold_snoc (M : List (List UInt8)) (l : List (List UInt8)) (i : Nat) (x : List UInt8) (h : l[i]? = some x) : (l.take (i + 1)).foldl addR M = addR ((l.take i).foldl addR M) x := by
  rw [List.take_add_one, h, List.foldl_append]; rfl
theorem fold_few : ∀ (ks M : List (List UInt8)), (ks.foldl addR M).length ≤ M.length + ks.length
  | [], M => by simp
  | k :: r, M => by
    have h := fold_few r (addR M k)
    have h2 : (addR M k).length ≤ M.length + 1 := by unfold addR; split <;> simp
    simp only [List.foldl_cons, List.length_cons]
    omega
theorem blk_not {lo : Nat} {v : Value} {xs : List (List UInt8)} {w : World} (h : OwnT lo v xs w) {b : Nat} (hb : w.heap.size ≤ b) : b ∉ v.ownBlock.toList := fun hm => by
  have := (ownT_blk h b (by simpa using hm)).2
  omega

set_option maxRecDepth 100000 in
set_option maxHeartbeats 2000000 in
theorem r3Opened (M : List (List UInt8)) (hM : M.length ≤ 9000000000000000000) (t : List UInt8) (ht : t.length ≤ 9000000000000000000) (v : Value) (w : World) (hv : TermsAt v M w) :
    Calls Tryz.prog 57 #[v, .string (bs t)] w fun e w' => e = .returned (.int .i64 (openedR M t)) ∧ Below w.heap.size w w' := by
  obtain ⟨va, vc, rfl, _⟩ := termsAt_sp hv
  have HV := Lib.hid hv
  have HE := Lib.hid (show openedR M t = ((partsR M t).filter (fun k => !M.contains k)).length from rfl)
  have hpl := parts_few M t
  clear hv
  go_enter Tryz.func57, Tryz.ntmps57
  go_wp2_with fail
  refine (r3Parts M hM t ht _ _ HV.out).mono ?_
  rintro e w1 ⟨u, rfl, hts, _, hb1⟩
  have HV1 := Lib.hid (termsAt_glx HV.out (gl_below hb1 (gl_refl [] _)) (by simp))
  have hg1 : GL [] w w1 := gl_below hb1 (gl_refl _ _)
  generalize partsR M t = ps at *
  obtain ⟨ua, uc, rfl, hu⟩ := termsAt_sp hts
  have HU := Lib.hid hu
  clear hts hu hb1
  go_wp2_with fail
  go_loopw [5, 7] (fun nv iv wr => ∃ k : Nat, k ≤ ps.length ∧ iv = .int .i64 k ∧ nv = .int .i64 (((ps.take k).filter (fun k => !M.contains k)).length : Nat) ∧ Hid (GL [] w1 wr)) (fun _ iv _ => ps.length - (intOf iv).toNat)
  case atStart => exact ⟨0, by omega, rfl, rfl, Lib.hid (gl_refl _ _)⟩
  case round =>
    obtain ⟨k, hk, rfl, rfl, hgr⟩ := hrel
    by_cases hlt : k < ps.length
    · have i1 : (k : Int) < ps.length := by omega
      rcases HU.out with h0 | ⟨b, o, rfl, hb, hc⟩
      · subst h0; simp at hlt
      have hx : ps[k]? = some ps[k] := List.getElem?_eq_getElem hlt
      have c0 := cell_glx (hc k _ hx) hgr.out (by simp)
      have HN := Lib.hid (filt_snoc (fun k => !M.contains k) ps k _ hx)
      have hnl := List.length_filter_le (fun k => !M.contains k) (ps.take k)
      have hnk : (ps.take k).length ≤ k := by rw [List.length_take]; omega
      clear hc hx
      generalize ps[k] = x at *
      generalize ((ps.take k).filter (fun k => !M.contains k)).length = n at *
      go_wp2_with fail
      refine (r3Has x M hM _ _ (termsAt_glx HV1.out hgr.out (by simp))).mono ?_
      rintro e w2 ⟨rfl, hb2⟩
      have hg2 : GL [] w1 w2 := gl_below hb2 hgr.out
      clear hb2 c0
      cases hm : M.contains x with
      | true =>
        have HN2 : Hid (((ps.take (k + 1)).filter (fun k => !M.contains k)).length = n) := by show _ = _; rw [HN.out, hm]; rfl
        clear hm
        go_wp2_with fail
        go_roundw
        case rel => exact ⟨k + 1, by omega, by go_num, by rw [HN2.out], Lib.hid hg2⟩
        case measure => simp [intOf]; omega
      | false =>
        have HN2 : Hid (((ps.take (k + 1)).filter (fun k => !M.contains k)).length = n + 1) := by show _ = _; rw [HN.out, hm]; rfl
        clear hm
        go_wp2_with fail
        go_roundw
        case rel => exact ⟨k + 1, by omega, by go_num, by rw [HN2.out]; go_num, Lib.hid hg2⟩
        case measure => simp [intOf]; omega
    · obtain rfl : k = ps.length := by omega
      go_wp2_with fail
      go_ret
      refine ⟨?_, gl_to_below (gl_step hgr.out hg1 (by simp))⟩
      rw [HE.out, List.take_length]
      first | rfl | (simp; done)

set_option maxRecDepth 100000 in
set_option maxHeartbeats 2000000 in
theorem r3Open (M : List (List UInt8)) (hM : M.length ≤ 100000000000) (t : List UInt8) (ht : t.length ≤ 9000000000000000000) (lo : Nat) (v : Value) (w : World) (hv : OwnT lo v M w) (hlo : lo ≤ w.heap.size) :
    Calls Tryz.prog 58 #[v, .string (bs t)] w fun e w' => ∃ u, e = .returned u ∧ OwnT lo u (openR M t) w' ∧ GL v.ownBlock.toList w w' ∧ (∀ g, u.ownBlock = some g → v.ownBlock = some g ∨ w.heap.size ≤ g) := by
  obtain ⟨va, vc, rfl⟩ := ownT_form hv
  have HV := Lib.hid hv
  have HE := Lib.hid (show openR M t = (partsR M t).foldl addR M from rfl)
  have hpl := parts_few M t
  clear hv
  go_enter Tryz.func58, Tryz.ntmps58
  go_wp2_with fail
  refine (r3Parts M (by omega) t ht _ _ (ownT_at HV.out)).mono ?_
  rintro e w1 ⟨u, rfl, hts, hfr, hb1⟩
  have HV1 := Lib.hid (ownT_below HV.out hb1)
  have hg1 : GL (Value.slice va M.length vc).ownBlock.toList w w1 := gl_below hb1 (gl_refl _ _)
  generalize partsR M t = ps at *
  obtain ⟨ua, uc, rfl, hu⟩ := termsAt_sp hts
  have HU := Lib.hid (show ps = [] ∨ ∃ b o, ua = some ⟨b, o, none⟩ ∧ b ∉ (Value.slice va M.length vc).ownBlock.toList ∧ ∀ (k : Nat) (t : List UInt8), ps[k]? = some t → w1.cell? ⟨b, o + k, none⟩ = some (.string (bs t)) from by
    rcases hu with h | ⟨b, o, rfl, _, hc⟩
    · exact .inl h
    · exact .inr ⟨b, o, rfl, blk_not HV.out (hfr b o _ _ rfl), hc⟩)
  have hsz := hb1.size
  clear hts hu hb1 hfr
  go_wp2_with fail
  go_loopw [0, 6] (fun mv iv wr => ∃ (k : Nat) (M1 : List (List UInt8)) (ma : Option Addr) (mc : Nat), k ≤ ps.length ∧ iv = .int .i64 k ∧ mv = .slice ma M1.length mc ∧ M1.length ≤ M.length + k ∧ Hid (M1 = (ps.take k).foldl addR M) ∧ Hid (OwnT lo (.slice ma M1.length mc) M1 wr) ∧ Hid (GL (Value.slice va M.length vc).ownBlock.toList w1 wr) ∧ Hid (∀ g, (Value.slice ma M1.length mc).ownBlock = some g → (Value.slice va M.length vc).ownBlock = some g ∨ w1.heap.size ≤ g)) (fun _ iv _ => ps.length - (intOf iv).toNat)
  case atStart => exact ⟨0, M, va, vc, by omega, rfl, rfl, by omega, Lib.hid rfl, HV1, Lib.hid (gl_refl _ _), Lib.hid (fun g h => .inl h)⟩
  case round =>
    obtain ⟨k, M1, ma, mc, hk, rfl, rfl, hml, HM1, HO, hgr, HB⟩ := hrel
    by_cases hlt : k < ps.length
    · have i1 : (k : Int) < ps.length := by omega
      rcases HU.out with h0 | ⟨b, o, rfl, hb, hc⟩
      · subst h0; simp at hlt
      have hx : ps[k]? = some ps[k] := List.getElem?_eq_getElem hlt
      have c0 := cell_glx (hc k _ hx) hgr.out hb
      have HN := Lib.hid (fold_snoc M ps k _ hx)
      clear hc hx hb
      generalize ps[k] = x at *
      go_wp2_with fail
      refine (r3Has x M1 (by omega) _ _ (ownT_at HO.out)).mono ?_
      rintro e w2 ⟨rfl, hb2⟩
      have hg2 : GL (Value.slice va M.length vc).ownBlock.toList w1 w2 := gl_below hb2 hgr.out
      have HO2 := Lib.hid (ownT_below HO.out hb2)
      have c2 := dcell_below c0 hb2
      have hsz2 := hg2.size
      clear hb2 c0
      cases hm : M1.contains x with
      | true =>
        have HN2 : Hid (M1 = (ps.take (k + 1)).foldl addR M) := by show _ = _; rw [HN.out, ← HM1.out]; unfold addR; rw [if_pos hm]
        clear hm
        go_wp2_with fail
        go_roundw
        case rel => exact ⟨k + 1, M1, ma, mc, by omega, by go_num, rfl, by omega, HN2, HO2, Lib.hid hg2, HB⟩
        case measure => simp [intOf]; omega
      | false =>
        have HN2 : Hid (M1 ++ [x] = (ps.take (k + 1)).foldl addR M) := by show _ = _; rw [HN.out, ← HM1.out]; unfold addR; rw [if_neg (by rw [hm]; simp)]
        clear hm
        go_wp2_with (at_builtin; go_must (refine wpList_appT rfl _ _ rfl lo (.slice ma M1.length mc) M1 x w2 _ rfl rfl rfl HO2.out (by omega) (by omega) ?_; (intro g6 c6 w6 hO6 hg6 hn6); (have HO6 := Lib.hid hO6); (have hgw6 : GL (Value.slice va M.length vc).ownBlock.toList w1 w6 := gl_step hg6 hg2 (fun r hr => by rcases HB.out r (by simpa using hr) with h | h; exact .inl (by simpa using h); exact .inr h)); (have HB6 := Lib.hid (show ∀ g c, (Value.slice (some ⟨g6, 0, none⟩) (M1.length + 1) c).ownBlock = some g → (Value.slice va M.length vc).ownBlock = some g ∨ w1.heap.size ≤ g from fun g c h => by obtain rfl : g6 = g := Option.some.inj h; rcases hn6 with h | h; exact HB.out _ h; exact .inr (by omega))); (clear hO6 hg6 hn6 c2)))
        go_roundw
        case rel => exact ⟨k + 1, M1 ++ [x], _, c6, by omega, by go_num, by rw [List.length_append]; rfl, by rw [List.length_append]; simp; omega, HN2, Lib.hid (by rw [List.length_append]; exact HO6.out), Lib.hid hgw6, Lib.hid (by rw [List.length_append]; exact fun g h => HB6.out g _ h)⟩
        case measure => simp [intOf]; omega
    · obtain rfl : k = ps.length := by omega
      have HM2 := HM1.out
      rw [List.take_length] at HM2
      have HM3 := Lib.hid HM2
      clear HM2
      go_wp2_with fail
      go_ret
      refine ⟨_, by first | rfl | (simp; done), by rw [HE.out, ← HM3.out]; exact HO.out, gl_step hgr.out hg1 (fun r hr => .inl hr), fun g h => ?_⟩
      rcases HB.out g h with h | h
      · exact .inl h
      · exact .inr (by omega)
end Go.Proofs.YtdipkblmcloifaaGreatDoor
