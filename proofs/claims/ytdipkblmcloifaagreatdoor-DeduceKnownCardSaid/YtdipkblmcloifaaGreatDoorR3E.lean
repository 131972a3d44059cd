/- The document's layer 3: all that stands within a term, and is asked for its sake. -/
import Derived.Test.YtdipkblmcloifaaGreatDoorR3C
set_option linter.unusedSimpArgs false
set_option linter.unusedVariables false
namespace Go.Proofs.YtdipkblmcloifaaGreatDoor
open Go.RowKit

/-- A row of one's own, grown out of another one. -/
structure RowW (lo : Nat) (v0 : Value) (w0 : World) (v : Value) (l : List (List UInt8)) (w : World) : Prop where
  own : OwnT lo v l w
  gl : GL v0.ownBlock.toList w0 w
  blk : ∀ g, v.ownBlock = some g → v0.ownBlock = some g ∨ w0.heap.size ≤ g
theorem rowW_refl {lo : Nat} {v : Value} {l : List (List UInt8)} {w : World} (h : OwnT lo v l w) : RowW lo v w v l w := ⟨h, gl_refl _ _, fun _ h => .inl h⟩
theorem rowW_step {lo : Nat} {v0 v1 v2 : Value} {w0 w1 w2 : World} {l1 l2 : List (List UInt8)} (h : RowW lo v0 w0 v1 l1 w1) (h2 : RowW lo v1 w1 v2 l2 w2) : RowW lo v0 w0 v2 l2 w2 :=
  ⟨h2.own, gl_step h2.gl h.gl (fun r hr => by rcases h.blk r (by simpa using hr) with h | h; exact .inl (by simpa using h); exact .inr h), fun g hg => by
    rcases h2.blk g hg with h3 | h3
    · exact h.blk g h3
    · exact .inr (Nat.le_trans h.gl.size h3)⟩
theorem rowW_gl {lo : Nat} {v0 v1 : Value} {w0 w1 w2 : World} {l1 : List (List UInt8)} (h : RowW lo v0 w0 v1 l1 w1) (hg : GL [] w1 w2) : RowW lo v0 w0 v1 l1 w2 :=
  ⟨ownT_gl h.own hg (by simp), gl_step hg h.gl (by simp), h.blk⟩
theorem rowW_below {lo : Nat} {v0 v1 : Value} {w0 w1 w2 : World} {l1 : List (List UInt8)} (h : RowW lo v0 w0 v1 l1 w1) (hb : Below w1.heap.size w1 w2) : RowW lo v0 w0 v1 l1 w2 := rowW_gl h (gl_below hb (gl_refl [] _))
theorem rowW_of {lo : Nat} {v0 : Value} {w0 w : World} {g c n : Nat} {l : List (List UInt8)} (h : OwnT lo (.slice (some ⟨g, 0, none⟩) n c) l w) (hg : GL v0.ownBlock.toList w0 w) (hb : v0.ownBlock = some g ∨ w0.heap.size < g) : RowW lo v0 w0 (.slice (some ⟨g, 0, none⟩) n c) l w :=
  ⟨h, hg, fun g2 h2 => by
    obtain rfl : g = g2 := Option.some.inj h2
    rcases hb with hb | hb
    · exact .inl hb
    · exact .inr (Nat.le_of_lt hb)⟩
/-- A list without doubles, out of another one. -/
structure SubU (U l : List (List UInt8)) : Prop where
  apart : l.Pairwise (fun a b => a ≠ b)
  sub : ∀ u ∈ l, u ∈ U
theorem sub_le {U l : List (List UInt8)} (h : SubU U l) : l.length ≤ U.length := nd_le l U h.apart h.sub
theorem sub_came {U l l' : List (List UInt8)} (h : SubU U l) (hc : Came U l l') : SubU U l' :=
  ⟨hc.apart h.apart, fun u hu => by
    by_cases hl : u ∈ l
    · exact h.sub u hl
    · exact (hc.new u hu hl).1⟩
theorem sub_add {U l : List (List UInt8)} {t : List UInt8} (h : SubU U l) (ht : t ∈ U) (hc : ¬ l.contains t = true) : SubU U (l ++ [t]) := by
  have hn : t ∉ l := by simpa using hc
  refine ⟨?_, fun u hu => ?_⟩
  · rw [List.pairwise_append]
    exact ⟨h.apart, by simp, fun a ha b hb e => by rw [List.mem_singleton.1 hb] at e; exact hn (e ▸ ha)⟩
  · rcases List.mem_append.1 hu with hu | hu
    · exact h.sub u hu
    · rw [List.mem_singleton.1 hu]; exact ht
theorem wi_snoc (f : List (List UInt8) → List UInt8 → List (List UInt8)) (m ks : List (List UInt8)) (i : Nat) (x : List UInt8) (h : ks[i]? = some x) : (ks.take (i + 1)).foldl f m = f ((ks.take i).foldl f m) x := by
  rw [List.take_add_one, h, List.foldl_append]; rfl

set_option maxRecDepth 100000 in
set_option maxHeartbeats 4000000 in
theorem r3WithinN (U : List (List UInt8)) (hU : Shut U) (hUl : U.length ≤ 1000000000) (lo : Nat) : ∀ (n : Nat) (l : List (List UInt8)) (t : List UInt8) (v : Value) (w : World), t.length ≤ n → right t = true → t ∈ U → SubU U l → OwnT lo v l w → lo ≤ w.heap.size →
    Calls Tryz.prog 56 #[v, .string (bs t)] w fun e w' => ∃ u, e = .returned u ∧ RowW lo v w u (wiF n l t) w' := by
  intro n
  induction n with
  | zero => intro l t v w hn hr; have := (right_len hr).1; omega
  | succ n ih =>
  intro l t v w hn hr ht hs hv hlo
  obtain ⟨va, vc, rfl⟩ := ownT_form hv
  have htl := (right_len hr).2
  have hll := sub_le hs
  obtain ⟨s, hx⟩ := right_some hr
  have HV := Lib.hid hv
  have IH := Lib.hid ih
  have HSB := Lib.hid hs
  have hkl := kids_len hx
  clear hv ih hs
  by_cases hc : l.contains t = true
  · have H : Hid (wiF (n + 1) l t = l) := by show _ = _; rw [wiF, if_pos hc]
    have HC := Lib.hid hc
    clear hc hx
    go_enter Tryz.func56, Tryz.ntmps56
    go_wp2_with fail
    refine (r3Has t l (by omega) _ _ (ownT_at HV.out)).mono ?_
    rintro e w1 ⟨rfl, hb1⟩
    rw [HC.out]
    go_wp2_with fail
    go_ret
    exact ⟨_, by first | rfl | (simp; done), by rw [H.out]; exact rowW_below (rowW_refl HV.out) hb1⟩
  · have HS1 := Lib.hid (sub_add HSB.out ht hc)
    have HC : Hid (l.contains t = false) := by show _ = _; cases hq : l.contains t with
      | true => exact absurd hq hc
      | false => rfl
    have HKS := Lib.hid (show ∀ k ∈ s.kids, k.length ≤ n ∧ right k = true ∧ k ∈ U from fun k hk => ⟨by have := (rt_kids hx k hk).2; omega, (rt_kids hx k hk).1, hU.kid t s ht hx k hk⟩)
    have HSC := Lib.hid (show ∀ u, secT t = some u → u.length ≤ n ∧ right u = true ∧ u ∈ U from fun u hq => ⟨by have := (secF_ok _ _ _ hq).2; omega, (secF_ok _ _ _ hq).1, hU.sec t u ht hq⟩)
    have HPB := Lib.hid (show s.op.toNat = 88 → ∃ a b, s.kids = [a, b] ∧ a.length ≤ 16384 ∧ b.length ≤ 16384 ∧ (∀ k, k = a ∨ k = b → (oneT 80 k).2 = 0 → (oneT 80 k).1.length ≤ n ∧ right (oneT 80 k).1 = true ∧ (oneT 80 k).1 ∈ U) from fun ho => by
      obtain ⟨a, b, e, ra, rb, la, lb⟩ := rt_two_kids hx (by rw [show s.op = 88 from UInt8.toNat_inj.1 ho]; rfl)
      have hsum := rt_sum hx
      rw [e] at hsum
      simp only [sumL] at hsum
      have n1 := name_long ra
      have n2 := name_long rb
      refine ⟨a, b, e, (right_len ra).2, (right_len rb).2, fun k hk h0 => ?_⟩
      obtain ⟨o1, o2⟩ := one_pub h0
      rw [o1]
      refine ⟨?_, o2, hU.pub t s ht hx ho k (by rw [e]; simpa using hk) o2⟩
      rcases hk with rfl | rfl <;> (simp; omega))
    have H : Hid (wiF (n + 1) l t = if s.op.toNat = 88 then pubW (wiF n) (pubW (wiF n) (secW (wiF n) (s.kids.foldl (wiF n) (l ++ [t])) t) (s.kids.getD 0 [])) (s.kids.getD 1 []) else secW (wiF n) (s.kids.foldl (wiF n) (l ++ [t])) t) := by show _ = _; rw [wiF, if_neg hc, hx]
    have HR := Lib.hid hx
    have HCM := Lib.hid (show ∀ (m : List (List UInt8)) (k : List UInt8), SubU U m → k.length ≤ n → right k = true → k ∈ U → SubU U (wiF n m k) from fun m k hm h1 h2 h3 => sub_came hm (wiF_came hU n m k h1 h2 h3).1)
    clear hc hx
    go_enter Tryz.func56, Tryz.ntmps56
    go_wp2_with fail
    refine (r3Has t l (by omega) _ _ (ownT_at HV.out)).mono ?_
    rintro e w1 ⟨rfl, hb1⟩
    rw [HC.out]
    have HV1 := Lib.hid (ownT_below HV.out hb1)
    have hsz1 := hb1.size
    have hg01 : GL (Value.slice va l.length vc).ownBlock.toList w w1 := gl_below hb1 (gl_refl _ _)
    clear hb1
    go_wp2_with (at_builtin; go_must (refine wpList_appT rfl _ _ rfl lo (.slice va l.length vc) l t w1 _ rfl rfl rfl HV1.out (by omega) (by omega) ?_; (intro g2 c2 w2 hO2 hg2 hn2); (have HR2 := Lib.hid (rowW_of hO2 hg2 hn2)); (clear hO2 hg2 hn2)))
    have HR2b := Lib.hid (rowW_step ⟨HV1.out, hg01, fun g h => .inl h⟩ HR2.out)
    have hsz2 := HR2b.out.gl.size
    have hg2b := ownT_blk HR2b.out.own g2 rfl
    clear HR2 HV1 hg01
    refine (refOpen t (by omega) _).mono ?_
    rintro e w3 hp
    rw [HR.out] at hp
    obtain ⟨ad, kn, kc, rfl, hown, hb3⟩ := hp
    obtain ⟨hts, hkn, hge⟩ := own_terms hown
    subst hkn
    have HP := Lib.hid (blk_new w3 (.cells #[.int .u8 s.op.toNat, .int .i64 (numOf s), .string (bs s.text), .slice ad s.kids.length kc] 63))
    have HK := Lib.hid (termsAt_glx hts (gl_alloc (gl_refl [] _) (.cells #[.int .u8 s.op.toNat, .int .i64 (numOf s), .string (bs s.text), .slice ad s.kids.length kc] 63)) (by simp))
    have HGE := Lib.hid hge
    have HR3 := Lib.hid (rowW_gl HR2b.out (gl_alloc (gl_below hb3 (gl_refl [] _)) (.cells #[.int .u8 s.op.toNat, .int .i64 (numOf s), .string (bs s.text), .slice ad s.kids.length kc] 63)))
    have hsz3 := hb3.size
    clear hown hts hb3 hge HR2b
    go_wp2_with fail
    generalize w3.alloc (.cells #[.int .u8 s.op.toNat, .int .i64 (numOf s), .string (bs s.text), .slice ad s.kids.length kc] 63) = w4 at *
    have hBg : w3.heap.size ≠ g2 := by omega
    generalize w3.heap.size = B at *
    obtain ⟨u0, u1, hku, hkd⟩ := termsAt_sp HK.out
    injection hku with hku1 hku2 hku3
    subst hku1 hku3
    have HKD := Lib.hid (show s.kids = [] ∨ ∃ b o, ad = some ⟨b, o, none⟩ ∧ b ≠ g2 ∧ ∀ (k : Nat) (t : List UInt8), s.kids[k]? = some t → w4.cell? ⟨b, o + k, none⟩ = some (.string (bs t)) by
      rcases hkd with h | ⟨b, o, rfl, _, hc⟩
      · exact .inl h
      · exact .inr ⟨b, o, rfl, by have := HGE.out b o kc rfl; omega, hc⟩)
    have hlo4 : lo ≤ w4.heap.size := by have := HR3.out.gl.size; omega
    clear hkd HGE
    generalize hl1 : l ++ [t] = l1 at *
    have hl1n : l.length + 1 = l1.length := by rw [← hl1]; simp
    rw [hl1n] at HR3 ⊢
    have HO4 := Lib.hid (rowW_refl HR3.out.own)
    clear hl1
    go_loopw [0, 7] (fun lv iv wr => ∃ (k : Nat) (lk : List (List UInt8)) (ka : Option Addr) (kd : Nat), k ≤ s.kids.length ∧ iv = .int .i64 k ∧ lv = .slice ka lk.length kd ∧ Hid (lk = (s.kids.take k).foldl (wiF n) l1) ∧ Hid (SubU U lk) ∧ Hid (RowW lo (.slice (some ⟨g2, 0, none⟩) l1.length c2) w4 (.slice ka lk.length kd) lk wr)) (fun _ iv _ => s.kids.length - (intOf iv).toNat)
    case atStart => exact ⟨0, l1, _, c2, by omega, rfl, rfl, Lib.hid rfl, HS1, HO4⟩
    case round =>
      obtain ⟨k, lk, ka, kd, hk, rfl, rfl, HLK, HSK, HRK⟩ := hrel
      have hnB : B ∉ (Value.slice (some ⟨g2, 0, none⟩) l1.length c2).ownBlock.toList := by simpa [Value.ownBlock] using hBg
      have HPr := Lib.hid (blk_gl HP.out HRK.out.gl hnB)
      have a1 := blk_cell HPr.out
      have a2 := blk_free HPr.out
      have a3 := blk_lt HPr.out
      have hszr := HRK.out.gl.size
      by_cases hlt : k < s.kids.length
      · have i1 : (k : Int) < s.kids.length := by omega
        rcases HKD.out with h0 | ⟨b, o, rfl, hb, hc⟩
        · rw [h0] at hlt; simp at hlt
        have hy : s.kids[k]? = some s.kids[k] := List.getElem?_eq_getElem hlt
        have c0 := cell_glx (hc k _ hy) HRK.out.gl (by simpa [Value.ownBlock] using hb)
        have HN := Lib.hid (wi_snoc (wiF n) l1 s.kids k _ hy)
        obtain ⟨y1, y2, y3⟩ := HKS.out _ (List.getElem_mem hlt)
        clear hc hy hb
        generalize s.kids[k] = y at *
        have HY := Lib.hid (And.intro y2 y3)
        clear y2 y3
        go_wp2_with fail
        refine (IH.out lk y _ _ y1 HY.out.1 HY.out.2 HSK.out HRK.out.own (by omega)).mono ?_
        rintro e w5 ⟨u, rfl, hR5⟩
        obtain ⟨ua, uc, rfl⟩ := ownT_form hR5.own
        have HR5 := Lib.hid (rowW_step HRK.out hR5)
        have HS5 := Lib.hid (HCM.out lk y HSK.out y1 HY.out.1 HY.out.2)
        have HL5 : Hid (wiF n lk y = (s.kids.take (k + 1)).foldl (wiF n) l1) := by show _ = _; rw [HN.out, ← HLK.out]
        clear hR5 a1 a2 a3 c0
        generalize wiF n lk y = l5 at *
        go_wp2_with fail
        go_roundw
        case rel => exact ⟨k + 1, l5, ua, uc, by omega, by go_num, rfl, HL5, HS5, HR5⟩
        case measure => simp [intOf]; omega
      · obtain rfl : k = s.kids.length := by omega
        have HL2 : Hid (lk = s.kids.foldl (wiF n) l1) := by show _ = _; rw [HLK.out, List.take_length]
        clear HLK
        rw [← HL2.out] at H
        clear HL2
        go_wp2_with fail
        refine (r3Secret t (by omega) _).mono ?_
        rintro e w5 ⟨rfl, hb5⟩
        have HR5 := Lib.hid (rowW_below HRK.out hb5)
        have hsz5 := hb5.size
        clear hb5 a1 a2 a3 HRK HPr
        have TAIL : ∀ (l3 : List (List UInt8)) (ka3 : Option Addr) (kd3 : Nat) (w6 : World), (wiF (n + 1) l t = if s.op.toNat = 88 then pubW (wiF n) (pubW (wiF n) l3 (s.kids.getD 0 [])) (s.kids.getD 1 []) else l3) → SubU U l3 → RowW lo (.slice (some ⟨g2, 0, none⟩) l1.length c2) w4 (.slice ka3 l3.length kd3) l3 w6 → True := fun _ _ _ _ _ _ _ => trivial
        clear TAIL
        cases hq : secT t with
        | none =>
          have H3 : Hid (wiF (n + 1) l t = if s.op.toNat = 88 then pubW (wiF n) (pubW (wiF n) lk (s.kids.getD 0 [])) (s.kids.getD 1 []) else lk) := by show _ = _; rw [H.out, show secW (wiF n) lk t = lk by unfold secW; rw [hq]]
          clear hq H
          have HPt := Lib.hid (blk_gl HP.out HR5.out.gl hnB)
          have t1 := blk_cell HPt.out
          have t2 := blk_free HPt.out
          have t3 := blk_lt HPt.out
          have hszt := HR5.out.gl.size
          by_cases h88 : s.op.toNat = 88
          · obtain ⟨a, b, hks, la, lb, hpb⟩ := HPB.out h88
            have b88 : (((s.op.toNat : Nat) : Int) == 88) = true := by simp [h88]
            have H4 : Hid (wiF (n + 1) l t = pubW (wiF n) (pubW (wiF n) lk a) b) := by show _ = _; rw [H3.out, if_pos h88, hks]; rfl
            have HPB2 := Lib.hid hpb
            have HP5 := HP
            have HK5 := HKD
            rw [hks] at HP5 HK5 t1
            simp only [List.length_cons, List.length_nil, Nat.zero_add, Nat.reduceAdd] at HP5 t1
            clear h88 hpb H3
            rcases HK5.out with h0 | ⟨kb, ko, hua, hkb, hkc⟩
            · cases h0
            subst hua
            have d0 := hkc 0 a rfl
            have d1 := hkc 1 b rfl
            simp only [Nat.add_zero] at d0
            have HD := Lib.hid (And.intro d0 d1)
            clear hkc d0 d1 HK5 HKD hks
            go_wp2_with fail
            clear t1 t2 t3 HPt
            go_loopw [0, 10] (fun lv iv wr => ∃ (k : Nat) (m : List (List UInt8)) (ma : Option Addr) (mc : Nat), k ≤ 2 ∧ iv = .int .i64 k ∧ lv = .slice ma m.length mc ∧ (k = 0 → m = lk) ∧ (k = 1 → m = pubW (wiF n) lk a) ∧ (k = 2 → m = pubW (wiF n) (pubW (wiF n) lk a) b) ∧ Hid (SubU U m) ∧ Hid (RowW lo (.slice (some ⟨g2, 0, none⟩) l1.length c2) w4 (.slice ma m.length mc) m wr)) (fun _ iv _ => 2 - (intOf iv).toNat)
            case atStart => exact ⟨0, lk, ka, kd, by omega, rfl, rfl, fun _ => rfl, fun h => by omega, fun h => by omega, HSK, HR5⟩
            case round =>
              obtain ⟨k, m, ma, mc, hk2, rfl, rfl, hm0, hm1, hm2, HSm, HRm⟩ := hrel
              have HPm := Lib.hid (blk_gl HP5.out HRm.out.gl hnB)
              have a1 := blk_cell HPm.out
              have a2 := blk_free HPm.out
              have a3 := blk_lt HPm.out
              have hszm := HRm.out.gl.size
              have c0 := cell_glx HD.out.1 HRm.out.gl (by simpa [Value.ownBlock] using hkb)
              have c1 := cell_glx HD.out.2 HRm.out.gl (by simpa [Value.ownBlock] using hkb)
              by_cases hk0 : k = 0
              · subst hk0
                have HM0 := Lib.hid (hm0 rfl)
                clear hm0 hm1 hm2
                go_wp2_with fail
                refine (refOne 80 a (by omega) _).mono ?_
                rintro e x1 ⟨rfl, hx1⟩
                have HRo := Lib.hid (rowW_below HRm.out hx1)
                have hszo := hx1.size
                have hnext := HPB2.out a (by simp)
                have HNX := Lib.hid hnext
                have HPW := Lib.hid (show pubW (wiF n) m a = if (oneT 80 a).2 = 0 then wiF n m (oneT 80 a).1 else m from rfl)
                clear hx1 a1 a2 a3 c0 c1 hnext
                generalize oneT 80 a = r at *
                obtain ⟨q, z⟩ := r
                by_cases hz : z = 0
                · subst hz
                  obtain ⟨q1, q2, q3⟩ := HNX.out rfl
                  have q1 : q.length ≤ n := q1
                  have HQ := Lib.hid (And.intro (show right q = true from q2) (show q ∈ U from q3))
                  have HPW2 : Hid (wiF n m q = pubW (wiF n) m a) := by show _ = _; rw [HPW.out]; rfl
                  clear q2 q3 HNX HPW
                  go_wp2_with fail
                  refine (IH.out m q _ _ q1 HQ.out.1 HQ.out.2 HSm.out HRo.out.own (by omega)).mono ?_
                  rintro e x2 ⟨u, rfl, hR7⟩
                  obtain ⟨u7, c7, rfl⟩ := ownT_form hR7.own
                  have HR7 := Lib.hid (rowW_step HRo.out hR7)
                  have HS7 := Lib.hid (HCM.out m q HSm.out q1 HQ.out.1 HQ.out.2)
                  clear hR7 HRo
                  generalize wiF n m q = m7 at *
                  go_wp2_with fail
                  go_roundw
                  case rel => exact ⟨1, m7, u7, c7, by omega, by go_num, rfl, fun h => by omega, fun _ => by rw [HPW2.out, HM0.out], fun h => by omega, HS7, HR7⟩
                  case measure => simp [intOf]
                · have bz : (z == 0) = false := by simp [hz]
                  have HPW2 : Hid (m = pubW (wiF n) m a) := by show _ = _; rw [HPW.out]; show m = if z = 0 then _ else m; rw [if_neg hz]
                  clear hz HNX HPW
                  go_wp2_with fail
                  go_roundw
                  case rel => exact ⟨1, m, ma, mc, by omega, by go_num, rfl, fun h => by omega, fun _ => by rw [← HM0.out, ← HPW2.out], fun h => by omega, HSm, HRo⟩
                  case measure => simp [intOf]
              · by_cases hk1 : k = 1
                · subst hk1
                  have HM1 := Lib.hid (hm1 rfl)
                  clear hm0 hm1 hm2
                  go_wp2_with fail
                  refine (refOne 80 b (by omega) _).mono ?_
                  rintro e x1 ⟨rfl, hx1⟩
                  have HRo := Lib.hid (rowW_below HRm.out hx1)
                  have hszo := hx1.size
                  have hnext := HPB2.out b (by simp)
                  have HNX := Lib.hid hnext
                  have HPW := Lib.hid (show pubW (wiF n) m b = if (oneT 80 b).2 = 0 then wiF n m (oneT 80 b).1 else m from rfl)
                  clear hx1 a1 a2 a3 c0 c1 hnext
                  generalize oneT 80 b = r at *
                  obtain ⟨q, z⟩ := r
                  by_cases hz : z = 0
                  · subst hz
                    obtain ⟨q1, q2, q3⟩ := HNX.out rfl
                    have q1 : q.length ≤ n := q1
                    have HQ := Lib.hid (And.intro (show right q = true from q2) (show q ∈ U from q3))
                    have HPW2 : Hid (wiF n m q = pubW (wiF n) m b) := by show _ = _; rw [HPW.out]; rfl
                    clear q2 q3 HNX HPW
                    go_wp2_with fail
                    refine (IH.out m q _ _ q1 HQ.out.1 HQ.out.2 HSm.out HRo.out.own (by omega)).mono ?_
                    rintro e x2 ⟨u, rfl, hR7⟩
                    obtain ⟨u7, c7, rfl⟩ := ownT_form hR7.own
                    have HR7 := Lib.hid (rowW_step HRo.out hR7)
                    have HS7 := Lib.hid (HCM.out m q HSm.out q1 HQ.out.1 HQ.out.2)
                    clear hR7 HRo
                    generalize wiF n m q = m7 at *
                    go_wp2_with fail
                    go_roundw
                    case rel => exact ⟨2, m7, u7, c7, by omega, by go_num, rfl, fun h => by omega, fun h => by omega, fun _ => by rw [HPW2.out, HM1.out], HS7, HR7⟩
                    case measure => simp [intOf]
                  · have bz : (z == 0) = false := by simp [hz]
                    have HPW2 : Hid (m = pubW (wiF n) m b) := by show _ = _; rw [HPW.out]; show m = if z = 0 then _ else m; rw [if_neg hz]
                    clear hz HNX HPW
                    go_wp2_with fail
                    go_roundw
                    case rel => exact ⟨2, m, ma, mc, by omega, by go_num, rfl, fun h => by omega, fun h => by omega, fun _ => by rw [← HM1.out, ← HPW2.out], HSm, HRo⟩
                    case measure => simp [intOf]
                · obtain rfl : k = 2 := by omega
                  have HM2 : Hid (wiF (n + 1) l t = m) := by show _ = _; rw [H4.out, hm2 rfl]
                  clear hm0 hm1 hm2
                  go_wp2_with fail
                  go_ret
                  exact ⟨_, by first | rfl | (simp; done), by rw [HM2.out]; exact rowW_step HR3.out HRm.out⟩
          · have b88 : (((s.op.toNat : Nat) : Int) == 88) = false := by simp; omega
            have H4 : Hid (wiF (n + 1) l t = lk) := by show _ = _; rw [H3.out, if_neg h88]
            clear h88 H3
            go_wp2_with fail
            go_ret
            exact ⟨_, by first | rfl | (simp; done), by rw [H4.out]; exact rowW_step HR3.out HR5.out⟩
        | some sv =>
          obtain ⟨y1, y2, y3⟩ := HSC.out sv hq
          have H2 : Hid (wiF (n + 1) l t = if s.op.toNat = 88 then pubW (wiF n) (pubW (wiF n) (wiF n lk sv) (s.kids.getD 0 [])) (s.kids.getD 1 []) else (wiF n lk sv)) := by show _ = _; rw [H.out, show secW (wiF n) lk t = wiF n lk sv by unfold secW; rw [hq]]
          have HY := Lib.hid (And.intro y2 y3)
          clear hq H y2 y3
          go_wp2_with fail
          refine (IH.out lk sv _ _ y1 HY.out.1 HY.out.2 HSK.out HR5.out.own (by omega)).mono ?_
          rintro e w6 ⟨u, rfl, hR6⟩
          obtain ⟨ua, uc, rfl⟩ := ownT_form hR6.own
          have HR6 := Lib.hid (rowW_step HR5.out hR6)
          have HS6 := Lib.hid (HCM.out lk sv HSK.out y1 HY.out.1 HY.out.2)
          have H3 := H2
          clear hR6 H2
          generalize wiF n lk sv = l6 at *
          have HPt := Lib.hid (blk_gl HP.out HR6.out.gl hnB)
          have t1 := blk_cell HPt.out
          have t2 := blk_free HPt.out
          have t3 := blk_lt HPt.out
          have hszt := HR6.out.gl.size
          by_cases h88 : s.op.toNat = 88
          · obtain ⟨a, b, hks, la, lb, hpb⟩ := HPB.out h88
            have b88 : (((s.op.toNat : Nat) : Int) == 88) = true := by simp [h88]
            have H4 : Hid (wiF (n + 1) l t = pubW (wiF n) (pubW (wiF n) l6 a) b) := by show _ = _; rw [H3.out, if_pos h88, hks]; rfl
            have HPB2 := Lib.hid hpb
            have HP5 := HP
            have HK5 := HKD
            rw [hks] at HP5 HK5 t1
            simp only [List.length_cons, List.length_nil, Nat.zero_add, Nat.reduceAdd] at HP5 t1
            clear h88 hpb H3
            rcases HK5.out with h0 | ⟨kb, ko, hua, hkb, hkc⟩
            · cases h0
            subst hua
            have d0 := hkc 0 a rfl
            have d1 := hkc 1 b rfl
            simp only [Nat.add_zero] at d0
            have HD := Lib.hid (And.intro d0 d1)
            clear hkc d0 d1 HK5 HKD hks
            go_wp2_with fail
            clear t1 t2 t3 HPt
            go_loopw [0, 10] (fun lv iv wr => ∃ (k : Nat) (m : List (List UInt8)) (ma : Option Addr) (mc : Nat), k ≤ 2 ∧ iv = .int .i64 k ∧ lv = .slice ma m.length mc ∧ (k = 0 → m = l6) ∧ (k = 1 → m = pubW (wiF n) l6 a) ∧ (k = 2 → m = pubW (wiF n) (pubW (wiF n) l6 a) b) ∧ Hid (SubU U m) ∧ Hid (RowW lo (.slice (some ⟨g2, 0, none⟩) l1.length c2) w4 (.slice ma m.length mc) m wr)) (fun _ iv _ => 2 - (intOf iv).toNat)
            case atStart => exact ⟨0, l6, ua, uc, by omega, rfl, rfl, fun _ => rfl, fun h => by omega, fun h => by omega, HS6, HR6⟩
            case round =>
              obtain ⟨k, m, ma, mc, hk2, rfl, rfl, hm0, hm1, hm2, HSm, HRm⟩ := hrel
              have HPm := Lib.hid (blk_gl HP5.out HRm.out.gl hnB)
              have a1 := blk_cell HPm.out
              have a2 := blk_free HPm.out
              have a3 := blk_lt HPm.out
              have hszm := HRm.out.gl.size
              have c0 := cell_glx HD.out.1 HRm.out.gl (by simpa [Value.ownBlock] using hkb)
              have c1 := cell_glx HD.out.2 HRm.out.gl (by simpa [Value.ownBlock] using hkb)
              by_cases hk0 : k = 0
              · subst hk0
                have HM0 := Lib.hid (hm0 rfl)
                clear hm0 hm1 hm2
                go_wp2_with fail
                refine (refOne 80 a (by omega) _).mono ?_
                rintro e x1 ⟨rfl, hx1⟩
                have HRo := Lib.hid (rowW_below HRm.out hx1)
                have hszo := hx1.size
                have hnext := HPB2.out a (by simp)
                have HNX := Lib.hid hnext
                have HPW := Lib.hid (show pubW (wiF n) m a = if (oneT 80 a).2 = 0 then wiF n m (oneT 80 a).1 else m from rfl)
                clear hx1 a1 a2 a3 c0 c1 hnext
                generalize oneT 80 a = r at *
                obtain ⟨q, z⟩ := r
                by_cases hz : z = 0
                · subst hz
                  obtain ⟨q1, q2, q3⟩ := HNX.out rfl
                  have q1 : q.length ≤ n := q1
                  have HQ := Lib.hid (And.intro (show right q = true from q2) (show q ∈ U from q3))
                  have HPW2 : Hid (wiF n m q = pubW (wiF n) m a) := by show _ = _; rw [HPW.out]; rfl
                  clear q2 q3 HNX HPW
                  go_wp2_with fail
                  refine (IH.out m q _ _ q1 HQ.out.1 HQ.out.2 HSm.out HRo.out.own (by omega)).mono ?_
                  rintro e x2 ⟨u, rfl, hR7⟩
                  obtain ⟨u7, c7, rfl⟩ := ownT_form hR7.own
                  have HR7 := Lib.hid (rowW_step HRo.out hR7)
                  have HS7 := Lib.hid (HCM.out m q HSm.out q1 HQ.out.1 HQ.out.2)
                  clear hR7 HRo
                  generalize wiF n m q = m7 at *
                  go_wp2_with fail
                  go_roundw
                  case rel => exact ⟨1, m7, u7, c7, by omega, by go_num, rfl, fun h => by omega, fun _ => by rw [HPW2.out, HM0.out], fun h => by omega, HS7, HR7⟩
                  case measure => simp [intOf]
                · have bz : (z == 0) = false := by simp [hz]
                  have HPW2 : Hid (m = pubW (wiF n) m a) := by show _ = _; rw [HPW.out]; show m = if z = 0 then _ else m; rw [if_neg hz]
                  clear hz HNX HPW
                  go_wp2_with fail
                  go_roundw
                  case rel => exact ⟨1, m, ma, mc, by omega, by go_num, rfl, fun h => by omega, fun _ => by rw [← HM0.out, ← HPW2.out], fun h => by omega, HSm, HRo⟩
                  case measure => simp [intOf]
              · by_cases hk1 : k = 1
                · subst hk1
                  have HM1 := Lib.hid (hm1 rfl)
                  clear hm0 hm1 hm2
                  go_wp2_with fail
                  refine (refOne 80 b (by omega) _).mono ?_
                  rintro e x1 ⟨rfl, hx1⟩
                  have HRo := Lib.hid (rowW_below HRm.out hx1)
                  have hszo := hx1.size
                  have hnext := HPB2.out b (by simp)
                  have HNX := Lib.hid hnext
                  have HPW := Lib.hid (show pubW (wiF n) m b = if (oneT 80 b).2 = 0 then wiF n m (oneT 80 b).1 else m from rfl)
                  clear hx1 a1 a2 a3 c0 c1 hnext
                  generalize oneT 80 b = r at *
                  obtain ⟨q, z⟩ := r
                  by_cases hz : z = 0
                  · subst hz
                    obtain ⟨q1, q2, q3⟩ := HNX.out rfl
                    have q1 : q.length ≤ n := q1
                    have HQ := Lib.hid (And.intro (show right q = true from q2) (show q ∈ U from q3))
                    have HPW2 : Hid (wiF n m q = pubW (wiF n) m b) := by show _ = _; rw [HPW.out]; rfl
                    clear q2 q3 HNX HPW
                    go_wp2_with fail
                    refine (IH.out m q _ _ q1 HQ.out.1 HQ.out.2 HSm.out HRo.out.own (by omega)).mono ?_
                    rintro e x2 ⟨u, rfl, hR7⟩
                    obtain ⟨u7, c7, rfl⟩ := ownT_form hR7.own
                    have HR7 := Lib.hid (rowW_step HRo.out hR7)
                    have HS7 := Lib.hid (HCM.out m q HSm.out q1 HQ.out.1 HQ.out.2)
                    clear hR7 HRo
                    generalize wiF n m q = m7 at *
                    go_wp2_with fail
                    go_roundw
                    case rel => exact ⟨2, m7, u7, c7, by omega, by go_num, rfl, fun h => by omega, fun h => by omega, fun _ => by rw [HPW2.out, HM1.out], HS7, HR7⟩
                    case measure => simp [intOf]
                  · have bz : (z == 0) = false := by simp [hz]
                    have HPW2 : Hid (m = pubW (wiF n) m b) := by show _ = _; rw [HPW.out]; show m = if z = 0 then _ else m; rw [if_neg hz]
                    clear hz HNX HPW
                    go_wp2_with fail
                    go_roundw
                    case rel => exact ⟨2, m, ma, mc, by omega, by go_num, rfl, fun h => by omega, fun h => by omega, fun _ => by rw [← HM1.out, ← HPW2.out], HSm, HRo⟩
                    case measure => simp [intOf]
                · obtain rfl : k = 2 := by omega
                  have HM2 : Hid (wiF (n + 1) l t = m) := by show _ = _; rw [H4.out, hm2 rfl]
                  clear hm0 hm1 hm2
                  go_wp2_with fail
                  go_ret
                  exact ⟨_, by first | rfl | (simp; done), by rw [HM2.out]; exact rowW_step HR3.out HRm.out⟩
          · have b88 : (((s.op.toNat : Nat) : Int) == 88) = false := by simp; omega
            have H4 : Hid (wiF (n + 1) l t = l6) := by show _ = _; rw [H3.out, if_neg h88]
            clear h88 H3
            go_wp2_with fail
            go_ret
            exact ⟨_, by first | rfl | (simp; done), by rw [H4.out]; exact rowW_step HR3.out HR6.out⟩
end Go.Proofs.YtdipkblmcloifaaGreatDoor
