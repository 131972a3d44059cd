/- The document's layer 3: which of all terms that matter can be made. -/
import Derived.Test.YtdipkblmcloifaaGreatDoorR3D
import Derived.Test.YtdipkblmcloifaaGreatDoorR3E
import Derived.Test.YtdipkblmcloifaaGreatDoorAppN
set_option linter.unusedSimpArgs false
set_option linter.unusedVariables false
namespace Go.Proofs.YtdipkblmcloifaaGreatDoor
open Go.RowKit

theorem wpList_appL {ops : Array Oper} {rest : List Oper} {o : Oper} {a : Act} {Q : Exit → Act → World → Prop} (hgd : o.guard = none) (s x : Operand)
    (ho : o.op = .call { callee := .builtin .append, args := #[s, x], argTypes := #[22, 22] })
    (lo : Nat) (v vx : Value) (xs ys : List (List UInt8)) (w : World) (hs : a.eval s = v) (hx : a.eval x = vx)
    (hown : OwnT lo v xs w) (hys : TermsAt vx ys w) (hlen : xs.length + ys.length ≤ 1000000000000) (hlo : lo ≤ w.heap.size)
    (h : ∀ v' w', OwnT lo v' (xs ++ ys) w' → GL v.ownBlock.toList w w' → (v'.ownBlock = v.ownBlock ∨ v'.ownBlock = some w.heap.size) → wpList Tryz.prog ops Q rest (a.put o.dst v') w') : wpList Tryz.prog ops Q (o :: rest) a w := by
  obtain ⟨t0, ht0, ht1, ht2, ht3⟩ := info_parts Tryz.infoTerm
  have key : ∀ (b off : Nat) (k : Option Nat) (c : Nat), vx = .slice (some ⟨b, off, k⟩) ys.length c → (∀ (j : Nat) (u : Value), (ys.map fun y => Value.string (bs y))[j]? = some u → w.cell? ((⟨b, off, k⟩ : Addr).add j) = some u) → wpList Tryz.prog ops Q (o :: rest) a w := by
    intro b off k c hv hc
    refine wpList_append_own_at _ hgd s x 22 ho lo 28 t0 (.string ByteArray.empty) 1 16 Tryz.underlying22 ht0 ht1 ht2 ht3 rfl (by decide) v xs.length (xs.map fun y => .string (bs y)) hs hown ⟨b, off, k⟩ ys.length c (ys.map fun y => .string (bs y)) (by rw [hx, hv]) (by simp) hc (by intro u hu; obtain ⟨y, _, rfl⟩ := List.mem_map.1 hu; rfl) (by unfold maxLen; omega) (by omega) hlo ?_
    intro v' w' h1 h2 _ h4
    rw [← List.map_append] at h1
    refine h v' w' (by unfold OwnT; rw [List.length_append]; exact h1) (gl_grown h2 (gl_refl _ _) (fun r hr => .inl (Option.mem_toList.2 hr))) h4
  rcases hys with ⟨ad, c, hv, rfl⟩ | ⟨b, off, c, hv, hb, hc⟩
  · cases ad with
    | none =>
      refine wpList_append_none hgd s x 22 ho lo 28 t0 1 Tryz.underlying22 ht0 v xs.length (xs.map fun y => .string (bs y)) hs hown c (by rw [hx, hv]) ?_
      exact h v w (by rw [List.append_nil]; exact hown) (gl_refl _ _) (.inl rfl)
    | some p =>
      obtain ⟨b, off, k⟩ := p
      exact key b off k c hv (fun j u hu => by simp at hu)
  · refine key b off none c hv (fun j u hu => ?_)
    rw [List.getElem?_map] at hu
    cases hy : ys[j]? with
    | none => rw [hy] at hu; cases hu
    | some y =>
      rw [hy] at hu
      simp only [Option.map_some, Option.some.injEq] at hu
      rw [← hu, show (⟨b, off, none⟩ : Addr).add j = ⟨b, off + j, none⟩ by unfold Addr.add; first | rfl | (split <;> simp_all)]
      exact hc j y hy
theorem shut_right {U : List (List UInt8)} (h : Shut U) : Shut (U.filter right) := by
  refine ⟨fun s x hs hx k hk => ?_, fun s u hs hu => ?_, fun s x hs hx ho k hk hr => ?_⟩
  · exact List.mem_filter.2 ⟨h.kid s x (List.mem_filter.1 hs).1 hx k hk, (rt_kids hx k hk).1⟩
  · exact List.mem_filter.2 ⟨h.sec s u (List.mem_filter.1 hs).1 hu, (secF_ok _ _ _ hu).1⟩
  · exact List.mem_filter.2 ⟨h.pub s x (List.mem_filter.1 hs).1 hx ho k hk hr, hr⟩
theorem flatU_len : ∀ {L : List (List UInt8)}, (∀ t ∈ L, right t = true) → (L.flatMap univ).length ≤ L.length * 49152
  | [], _ => by simp
  | a :: r, h => by
    have h1 := univ_len (h a (by simp))
    have h2 := (right_len (h a (by simp))).2
    have h3 := flatU_len (L := r) (fun t ht => h t (by simp [ht]))
    simp only [List.flatMap_cons, List.length_append, List.length_cons]
    omega
/-- What is answered: a row of what can be made of all that matters. -/
def MadeP (S : List UInt8 → Bool) (heard : List (List UInt8)) (t : List UInt8) (w : World) (e : Ending) (w' : World) : Prop :=
  ∃ u M all, e = .returned u ∧ OwnT w.heap.size u M w' ∧ Below w.heap.size w w' ∧ Shut all ∧ (∀ x ∈ heard, x ∈ all) ∧ (right t = true → t ∈ all) ∧ (∀ x ∈ all, M.contains x = kn S x) ∧ M.length ≤ 2000000000
def lenV : Value → Nat
  | .slice _ n _ => n
  | _ => 0
def flagV : Value → Nat
  | .bool true => 1
  | _ => 0
theorem step_open {M : List (List UInt8)} {b : Bool} {u : List UInt8} (hm : M.contains u = true) (hz : 0 < openedR M u) : stepM (M, b) u = (openR M u, true) := by
  unfold stepM; simp only; rw [if_pos hm, if_pos hz]
theorem step_old {M : List (List UInt8)} {b : Bool} {u : List UInt8} (hm : M.contains u = true) (hz : openedR M u = 0) : stepM (M, b) u = (M, b) := by
  unfold stepM; simp only; rw [if_pos hm, if_neg (by omega)]
theorem step_made {M : List (List UInt8)} {b : Bool} {u : List UInt8} (hm : M.contains u = false) (hz : makesB M.contains u = true) : stepM (M, b) u = (M ++ [u], true) := by
  unfold stepM; simp only; rw [if_neg (by rw [hm]; simp), if_pos hz]
theorem step_not {M : List (List UInt8)} {b : Bool} {u : List UInt8} (hm : M.contains u = false) (hz : makesB M.contains u = false) : stepM (M, b) u = (M, b) := by
  unfold stepM; simp only; rw [if_neg (by rw [hm]; simp), if_neg (by rw [hz]; simp)]

set_option maxRecDepth 100000 in
set_option maxHeartbeats 4000000 in
theorem r3Made (H S : List UInt8 → Bool) (hL : Least H S) (heard : List (List UInt8)) (hhl : heard.length ≤ 10000) (hhr : ∀ t ∈ heard, right t = true) (hH : ∀ t, H t = true ↔ t ∈ heard) (t : List UInt8) (ht : t.length ≤ 9000000000000000000) (vh : Value) (w : World) (hv : TermsAt vh heard w) :
    Calls Tryz.prog 33 #[vh, .string (bs t)] w (MadeP S heard t w) := by
  obtain ⟨va, vc, rfl, hvd⟩ := termsAt_sp hv
  obtain ⟨U, hUe⟩ : ∃ U : List (List UInt8), U = ((heard ++ (if right t = true then [t] else [])).flatMap univ).filter right := ⟨_, rfl⟩
  have hall : ∀ x ∈ heard ++ (if right t = true then [t] else []), right x = true := by
    intro x hx
    rcases List.mem_append.1 hx with hx | hx
    · exact hhr x hx
    · split at hx
      · rename_i h; rw [List.mem_singleton.1 hx]; exact h
      · simp at hx
  have hU : Shut U := by rw [hUe]; exact shut_right (shut_flat hall)
  have hUr : ∀ x ∈ U, right x = true := fun x hx => by rw [hUe] at hx; exact (List.mem_filter.1 hx).2
  have hUh : ∀ x ∈ heard, x ∈ U := fun x hx => by
    rw [hUe]
    exact List.mem_filter.2 ⟨List.mem_flatMap.2 ⟨x, List.mem_append_left _ hx, univ_self (hhr x hx)⟩, hhr x hx⟩
  have hUt : right t = true → t ∈ U := fun hr => by
    rw [hUe]
    exact List.mem_filter.2 ⟨List.mem_flatMap.2 ⟨t, List.mem_append_right _ (by rw [if_pos hr]; simp), univ_self hr⟩, hr⟩
  have hUl : U.length ≤ 1000000000 := by
    have h1 := flatU_len hall
    have h2 := List.length_filter_le right ((heard ++ (if right t = true then [t] else [])).flatMap univ)
    have h3 : (heard ++ (if right t = true then [t] else [])).length ≤ 10001 := by rw [List.length_append]; split <;> simp <;> omega
    rw [hUe]
    have h4 : (heard ++ (if right t = true then [t] else [])).length * 49152 ≤ 10001 * 49152 := Nat.mul_le_mul_right _ h3
    omega
  have HV := Lib.hid hv
  have HVD := Lib.hid hvd
  have HL := Lib.hid hL
  have HHR := Lib.hid hhr
  have HHH := Lib.hid hH
  have HU := Lib.hid hU
  have HUR := Lib.hid hUr
  have HUH := Lib.hid hUh
  have HUT := Lib.hid hUt
  clear hv hvd hL hhr hH hall hU hUr hUh hUt hUe
  go_enter Tryz.func33, Tryz.ntmps33
  go_wp2_with fail
  go_loopw [5, 6] (fun lv iv wr => ∃ (k : Nat) (l : List (List UInt8)) (la : Option Addr) (lc : Nat), k ≤ heard.length ∧ iv = .int .i64 k ∧ lv = .slice la l.length lc ∧ Hid (Came U [] l) ∧ Hid (∀ j x, j < k → heard[j]? = some x → x ∈ l) ∧ Hid (SubU U l) ∧ Hid (RowW w.heap.size (.slice none 0 0) w (.slice la l.length lc) l wr)) (fun _ iv _ => heard.length - (intOf iv).toNat)
  case atStart => exact ⟨0, [], none, 0, by omega, rfl, rfl, Lib.hid (came_refl _ _), Lib.hid (fun j x h => absurd h (Nat.not_lt_zero j)), Lib.hid ⟨by simp, by simp⟩, Lib.hid (rowW_refl (ownT_nil _ _))⟩
  case round =>
    obtain ⟨k, l, la, lc, hk, rfl, rfl, HC, HI, HS, HRW⟩ := hrel
    have hszr := HRW.out.gl.size
    by_cases hlt : k < heard.length
    · have i1 : (k : Int) < heard.length := by omega
      rcases HVD.out with h0 | ⟨b, o, rfl, hb, hc⟩
      · rw [h0] at hlt; simp at hlt
      have hy : heard[k]? = some heard[k] := List.getElem?_eq_getElem hlt
      have hm := List.getElem_mem hlt
      have c0 := cell_glx (hc k _ hy) HRW.out.gl (by simp [Value.ownBlock])
      have hyr := HHR.out _ hm
      have hyU := HUH.out _ hm
      have HY := Lib.hid (And.intro hyr hyU)
      have HYK := Lib.hid hy
      clear hc hy hm hyr hyU
      generalize heard[k] = y at *
      go_wp2_with fail
      refine (r3WithinN U HU.out hUl w.heap.size y.length l y _ _ (Nat.le_refl _) HY.out.1 HY.out.2 HS.out HRW.out.own (by omega)).mono ?_
      rintro e w1 ⟨u, rfl, hR1⟩
      obtain ⟨ua, uc, rfl⟩ := ownT_form hR1.own
      obtain ⟨k1, k2⟩ := wiF_came HU.out y.length l y (Nat.le_refl _) HY.out.1 HY.out.2
      have HC1 := Lib.hid (came_trans HC.out k1)
      have HS1 := Lib.hid (sub_came HS.out k1)
      have HR1 := Lib.hid (rowW_step HRW.out hR1)
      have HI1 := Lib.hid (show ∀ j x, j < k + 1 → heard[j]? = some x → x ∈ wiF y.length l y from fun j x hj hx => by
        by_cases e : j = k
        · subst e; have := HYK.out; rw [hx] at this; injection this with this; rw [this]; exact k2
        · exact k1.old x (HI.out j x (by omega) hx))
      clear hR1 k1 k2 c0
      generalize wiF y.length l y = l1 at *
      go_wp2_with fail
      go_roundw
      case rel => exact ⟨k + 1, l1, ua, uc, by omega, by go_num, rfl, HC1, HI1, HS1, HR1⟩
      case measure => simp [intOf]; omega
    · obtain rfl : k = heard.length := by omega
      have HIN := Lib.hid (show ∀ x ∈ heard, x ∈ l from fun x hx => by
        obtain ⟨j, hj⟩ := List.getElem?_of_mem hx
        exact HI.out j x (List.getElem?_eq_some_iff.1 hj).1 hj)
      clear HI
      go_wp2_with fail
      refine (refRight t ht _).mono ?_
      rintro e w1 ⟨rfl, hb1⟩
      have HR1 := Lib.hid (rowW_below HRW.out hb1)
      have hsz1 := hb1.size
      clear hb1 HRW
      cases hrt : right t with
      | false =>
        have HT := Lib.hid (show right t = true → t ∈ l from fun h => by rw [hrt] at h; cases h)
        clear hrt
        have HSH := Lib.hid (came_shut HC.out)
        have HLR := Lib.hid (show ∀ x ∈ l, right x = true from fun x hx => HUR.out x (HS.out.sub x hx))
        have hll := sub_le HS.out
        have HAT := Lib.hid (ownT_at HR1.out.own)
        have hgA : GL [] w w1 := HR1.out.gl
        have HVA := Lib.hid (termsAt_glx HV.out hgA (by simp))
        obtain ⟨u0, u1, hku, hkd⟩ := termsAt_sp HAT.out
        injection hku with hku1 hku2 hku3
        subst hku1 hku3
        have HKD := Lib.hid hkd
        clear hkd HC HS HR1
        go_wp2_with (at_builtin; go_must (refine wpList_appL rfl _ _ rfl w.heap.size (.slice none 0 0) (.slice va heard.length vc) [] heard _ rfl rfl (ownT_nil _ _) HVA.out (by simp; omega) (by omega) ?_; (intro v3 w3 hO3 hg3 hn3); (rw [List.nil_append] at hO3); (obtain ⟨m0, m1, hm01⟩ := ownT_form hO3); (subst hm01); (have HR3 : Hid (RowW w.heap.size (.slice none 0 0) w1 (.slice m0 heard.length m1) heard w3) := Lib.hid ⟨hO3, hg3, fun g hg => by rcases hn3 with h | h; rw [h] at hg; exact .inl hg; rw [h] at hg; injection hg with hg; exact .inr (by omega)⟩); (clear hO3 hg3 hn3)))
        have HMK := Lib.hid (show Mark S l heard heard from ⟨fun u hu => kn_held (HHR.out u hu) (HL.out.1 u ((HHH.out u).2 hu)), [], by simp, by simp, by simp⟩)
        go_loopw [7, 8, 9] (fun mv bv _ wr => ∃ (M : List (List UInt8)) (ma : Option Addr) (mc : Nat) (b : Bool), mv = .slice ma M.length mc ∧ bv = .bool b ∧ Hid (Mark S l heard M) ∧ Hid (b = false → Still l M) ∧ Hid (RowW w.heap.size (.slice none 0 0) w1 (.slice ma M.length mc) M wr)) (fun mv bv _ _ => 2 * (heard.length + l.length - lenV mv) + flagV bv)
        case atStart => exact ⟨heard, m0, m1, true, rfl, rfl, HMK, Lib.hid (fun h => by cases h), HR3⟩
        case round =>
          clear HR3 HMK
          obtain ⟨M, ma, mc, b, rfl, rfl, HM, HST, HRM⟩ := hrel
          have hml := mark_len HM.out
          cases b with
          | false =>
            go_wp2_with fail
            go_ret
            refine ⟨_, M, l, by first | rfl | (simp; done), HRM.out.own, gl_to_below (gl_step HRM.out.gl hgA (by simp [Value.ownBlock])), HSH.out, HIN.out, HT.out, still_kn HL.out HSH.out HLR.out HIN.out HHH.out HM.out (HST.out trivial), by omega⟩
          | true =>
            have HPS := Lib.hid (pass_start HM.out)
            clear HST
            go_wp2_with fail
            go_loopw [7, 8, 9] (fun mv bv iv wr => ∃ (k : Nat) (M1 : List (List UInt8)) (na : Option Addr) (nc : Nat) (b : Bool), k ≤ l.length ∧ iv = .int .i64 k ∧ mv = .slice na M1.length nc ∧ bv = .bool b ∧ Hid (PassI S l heard M k M1 b) ∧ Hid (RowW w.heap.size (.slice none 0 0) w1 (.slice na M1.length nc) M1 wr)) (fun _ _ iv _ => l.length - (intOf iv).toNat)
            case atStart => exact ⟨0, M, ma, mc, false, by omega, rfl, rfl, rfl, HPS, HRM⟩
            case round =>
              clear HPS HRM
              obtain ⟨k, M1, na, nc, b, hk, rfl, rfl, rfl, HP, HRN⟩ := hrel
              have hml1 := mark_len HP.out.mark
              have hszn := HRN.out.gl.size
              by_cases hlt : k < l.length
              · have i1 : (k : Int) < l.length := by omega
                rcases HKD.out with h0 | ⟨b0, o, rfl, hb, hc⟩
                · rw [h0] at hlt; simp at hlt
                have hy : l[k]? = some l[k] := List.getElem?_eq_getElem hlt
                have c0 := cell_glx (hc k _ hy) HRN.out.gl (by simp [Value.ownBlock])
                have hyr := HLR.out _ (List.getElem_mem hlt)
                have hyl := (right_len hyr).2
                have HY := Lib.hid hyr
                have HPN := Lib.hid (pass_step HL.out HSH.out HLR.out HP.out hy)
                clear hc hy hyr
                generalize l[k] = y at *
                go_wp2_with fail
                refine (r3Has y M1 (by omega) _ _ (ownT_at HRN.out.own)).mono ?_
                rintro e x1 ⟨rfl, hx1⟩
                have HRo := Lib.hid (rowW_below HRN.out hx1)
                have c1 := cell_glx c0 (gl_below hx1 (gl_refl [] _)) (by simp)
                have hszo := hx1.size
                clear hx1 c0 HRN
                cases hm : M1.contains y with
                | true =>
                  have HCM := Lib.hid hm
                  clear hm
                  go_wp2_with fail
                  refine (r3Opened M1 (by omega) y (by omega) _ _ (ownT_at HRo.out.own)).mono ?_
                  rintro e x2 ⟨rfl, hx2⟩
                  have HRp := Lib.hid (rowW_below HRo.out hx2)
                  have c2 := cell_glx c1 (gl_below hx2 (gl_refl [] _)) (by simp)
                  have hszp := hx2.size
                  clear hx2 c1 HRo
                  by_cases hz : 0 < openedR M1 y
                  · have HPN2 : Hid (PassI S l heard M (k + 1) (openR M1 y) true) := by
                      have h := HPN.out
                      rw [step_open HCM.out hz] at h
                      exact h
                    have hz2 : (0 : Int) < (openedR M1 y : Nat) := by omega
                    clear HPN hz
                    generalize openedR M1 y = z at *
                    have dz : decide ((0 : Int) < (z : Int)) = true := by simp; omega
                    go_wp2_with fail
                    refine (r3Open M1 (by omega) y (by omega) w.heap.size _ _ HRp.out.own (by omega)).mono ?_
                    rintro e x3 ⟨u, rfl, hO, hg, hn⟩
                    obtain ⟨n0, n1, hn01⟩ := ownT_form hO
                    subst hn01
                    have HRq := Lib.hid (rowW_step HRp.out ⟨hO, hg, hn⟩)
                    clear hO hg hn c2
                    generalize openR M1 y = M2 at *
                    go_wp2_with fail
                    go_roundw
                    case rel => exact ⟨k + 1, M2, n0, n1, true, by omega, by go_num, rfl, rfl, HPN2, HRq⟩
                    case measure => simp [intOf]; omega
                  · have hz0 : openedR M1 y = 0 := by omega
                    have HPN2 : Hid (PassI S l heard M (k + 1) M1 b) := by
                      have h := HPN.out
                      rw [step_old HCM.out hz0] at h
                      exact h
                    rw [hz0]
                    clear HPN hz hz0
                    go_wp2_with fail
                    go_roundw
                    case rel => exact ⟨k + 1, M1, na, nc, b, by omega, by go_num, rfl, rfl, HPN2, HRp⟩
                    case measure => simp [intOf]; omega
                | false =>
                  have HCM := Lib.hid hm
                  clear hm
                  go_wp2_with fail
                  refine (r3Makes M1 (by omega) y HY.out _ _ (ownT_at HRo.out.own)).mono ?_
                  rintro e x2 ⟨rfl, hx2⟩
                  have HRp := Lib.hid (rowW_below HRo.out hx2)
                  have c2 := cell_glx c1 (gl_below hx2 (gl_refl [] _)) (by simp)
                  have hszp := hx2.size
                  clear hx2 c1 HRo
                  cases hz : makesB M1.contains y with
                  | true =>
                    have HPN2 : Hid (PassI S l heard M (k + 1) (M1 ++ [y]) true) := by
                      have h := HPN.out
                      rw [step_made HCM.out hz] at h
                      exact h
                    clear HPN hz
                    go_wp2_with (at_builtin; go_must (refine wpList_appT rfl _ _ rfl w.heap.size (.slice na M1.length nc) M1 y x2 _ rfl rfl rfl HRp.out.own (by omega) (by omega) ?_; (intro g6 c6 w6 hO6 hg6 hn6); (have HR6 := Lib.hid (rowW_step HRp.out (rowW_of hO6 hg6 hn6))); (clear hO6 hg6 hn6 c2)))
                    go_roundw
                    case rel => exact ⟨k + 1, M1 ++ [y], _, c6, true, by omega, by go_num, by rw [List.length_append]; rfl, rfl, HPN2, Lib.hid (by rw [List.length_append]; exact HR6.out)⟩
                    case measure => simp [intOf]; omega
                  | false =>
                    have HPN2 : Hid (PassI S l heard M (k + 1) M1 b) := by
                      have h := HPN.out
                      rw [step_not HCM.out hz] at h
                      exact h
                    clear HPN hz
                    go_wp2_with fail
                    go_roundw
                    case rel => exact ⟨k + 1, M1, na, nc, b, by omega, by go_num, rfl, rfl, HPN2, HRp⟩
                    case measure => simp [intOf]; omega
              · obtain rfl : k = l.length := by omega
                have HMK1 := Lib.hid HP.out.mark
                have HST1 := Lib.hid (show b = false → Still l M1 from fun hb => by subst hb; obtain ⟨e1, e2⟩ := pass_still HP.out; rw [e1]; exact e2)
                have hlen := HP.out.len
                have hmore := HP.out.more
                have hsame := fun hb => congrArg List.length (HP.out.same hb).1
                clear HP
                go_wp2_with fail
                go_roundw
                case rel => exact ⟨M1, na, nc, b, rfl, rfl, HMK1, HST1, HRN⟩
                case measure =>
                  cases b with
                  | true => have := hmore rfl; simp [lenV, flagV]; omega
                  | false => have := hsame rfl; simp [lenV, flagV]; omega
      | true =>
        have HRT := Lib.hid hrt
        clear hrt
        go_wp2_with fail
        refine (r3WithinN U HU.out hUl w.heap.size t.length l t _ _ (Nat.le_refl _) HRT.out (HUT.out HRT.out) HS.out HR1.out.own (by omega)).mono ?_
        rintro e w2 ⟨u, rfl, hR2⟩
        obtain ⟨ua, uc, rfl⟩ := ownT_form hR2.own
        obtain ⟨k1, k2⟩ := wiF_came HU.out t.length l t (Nat.le_refl _) HRT.out (HUT.out HRT.out)
        have HC2 := Lib.hid (came_trans HC.out k1)
        have HS2 := Lib.hid (sub_came HS.out k1)
        have HR2 := Lib.hid (rowW_step HR1.out hR2)
        have HT := Lib.hid (show right t = true → t ∈ wiF t.length l t from fun _ => k2)
        have HI2 := Lib.hid (show ∀ x ∈ heard, x ∈ wiF t.length l t from fun x hx => k1.old x (HIN.out x hx))
        have hsz2 := hR2.gl.size
        clear hR2 k1 k2 HIN HS HC HR1
        generalize wiF t.length l t = l2 at *
        have HSH := Lib.hid (came_shut HC2.out)
        have HLR := Lib.hid (show ∀ x ∈ l2, right x = true from fun x hx => HUR.out x (HS2.out.sub x hx))
        have hll := sub_le HS2.out
        have HAT := Lib.hid (ownT_at HR2.out.own)
        have hgA : GL [] w w2 := HR2.out.gl
        have HVA := Lib.hid (termsAt_glx HV.out hgA (by simp))
        obtain ⟨u0, u1, hku, hkd⟩ := termsAt_sp HAT.out
        injection hku with hku1 hku2 hku3
        subst hku1 hku3
        have HKD := Lib.hid hkd
        clear hkd HC2 HS2 HR2
        go_wp2_with (at_builtin; go_must (refine wpList_appL rfl _ _ rfl w.heap.size (.slice none 0 0) (.slice va heard.length vc) [] heard _ rfl rfl (ownT_nil _ _) HVA.out (by simp; omega) (by omega) ?_; (intro v3 w3 hO3 hg3 hn3); (rw [List.nil_append] at hO3); (obtain ⟨m0, m1, hm01⟩ := ownT_form hO3); (subst hm01); (have HR3 : Hid (RowW w.heap.size (.slice none 0 0) w2 (.slice m0 heard.length m1) heard w3) := Lib.hid ⟨hO3, hg3, fun g hg => by rcases hn3 with h | h; rw [h] at hg; exact .inl hg; rw [h] at hg; injection hg with hg; exact .inr (by omega)⟩); (clear hO3 hg3 hn3)))
        have HMK := Lib.hid (show Mark S l2 heard heard from ⟨fun u hu => kn_held (HHR.out u hu) (HL.out.1 u ((HHH.out u).2 hu)), [], by simp, by simp, by simp⟩)
        go_loopw [7, 8, 9] (fun mv bv _ wr => ∃ (M : List (List UInt8)) (ma : Option Addr) (mc : Nat) (b : Bool), mv = .slice ma M.length mc ∧ bv = .bool b ∧ Hid (Mark S l2 heard M) ∧ Hid (b = false → Still l2 M) ∧ Hid (RowW w.heap.size (.slice none 0 0) w2 (.slice ma M.length mc) M wr)) (fun mv bv _ _ => 2 * (heard.length + l2.length - lenV mv) + flagV bv)
        case atStart => exact ⟨heard, m0, m1, true, rfl, rfl, HMK, Lib.hid (fun h => by cases h), HR3⟩
        case round =>
          clear HR3 HMK
          obtain ⟨M, ma, mc, b, rfl, rfl, HM, HST, HRM⟩ := hrel
          have hml := mark_len HM.out
          cases b with
          | false =>
            go_wp2_with fail
            go_ret
            refine ⟨_, M, l2, by first | rfl | (simp; done), HRM.out.own, gl_to_below (gl_step HRM.out.gl hgA (by simp [Value.ownBlock])), HSH.out, HI2.out, HT.out, still_kn HL.out HSH.out HLR.out HI2.out HHH.out HM.out (HST.out trivial), by omega⟩
          | true =>
            have HPS := Lib.hid (pass_start HM.out)
            clear HST
            go_wp2_with fail
            go_loopw [7, 8, 9] (fun mv bv iv wr => ∃ (k : Nat) (M1 : List (List UInt8)) (na : Option Addr) (nc : Nat) (b : Bool), k ≤ l2.length ∧ iv = .int .i64 k ∧ mv = .slice na M1.length nc ∧ bv = .bool b ∧ Hid (PassI S l2 heard M k M1 b) ∧ Hid (RowW w.heap.size (.slice none 0 0) w2 (.slice na M1.length nc) M1 wr)) (fun _ _ iv _ => l2.length - (intOf iv).toNat)
            case atStart => exact ⟨0, M, ma, mc, false, by omega, rfl, rfl, rfl, HPS, HRM⟩
            case round =>
              clear HPS HRM
              obtain ⟨k, M1, na, nc, b, hk, rfl, rfl, rfl, HP, HRN⟩ := hrel
              have hml1 := mark_len HP.out.mark
              have hszn := HRN.out.gl.size
              by_cases hlt : k < l2.length
              · have i1 : (k : Int) < l2.length := by omega
                rcases HKD.out with h0 | ⟨b0, o, rfl, hb, hc⟩
                · rw [h0] at hlt; simp at hlt
                have hy : l2[k]? = some l2[k] := List.getElem?_eq_getElem hlt
                have c0 := cell_glx (hc k _ hy) HRN.out.gl (by simp [Value.ownBlock])
                have hyr := HLR.out _ (List.getElem_mem hlt)
                have hyl := (right_len hyr).2
                have HY := Lib.hid hyr
                have HPN := Lib.hid (pass_step HL.out HSH.out HLR.out HP.out hy)
                clear hc hy hyr
                generalize l2[k] = y at *
                go_wp2_with fail
                refine (r3Has y M1 (by omega) _ _ (ownT_at HRN.out.own)).mono ?_
                rintro e x1 ⟨rfl, hx1⟩
                have HRo := Lib.hid (rowW_below HRN.out hx1)
                have c1 := cell_glx c0 (gl_below hx1 (gl_refl [] _)) (by simp)
                have hszo := hx1.size
                clear hx1 c0 HRN
                cases hm : M1.contains y with
                | true =>
                  have HCM := Lib.hid hm
                  clear hm
                  go_wp2_with fail
                  refine (r3Opened M1 (by omega) y (by omega) _ _ (ownT_at HRo.out.own)).mono ?_
                  rintro e x2 ⟨rfl, hx2⟩
                  have HRp := Lib.hid (rowW_below HRo.out hx2)
                  have c2 := cell_glx c1 (gl_below hx2 (gl_refl [] _)) (by simp)
                  have hszp := hx2.size
                  clear hx2 c1 HRo
                  by_cases hz : 0 < openedR M1 y
                  · have HPN2 : Hid (PassI S l2 heard M (k + 1) (openR M1 y) true) := by
                      have h := HPN.out
                      rw [step_open HCM.out hz] at h
                      exact h
                    have hz2 : (0 : Int) < (openedR M1 y : Nat) := by omega
                    clear HPN hz
                    generalize openedR M1 y = z at *
                    have dz : decide ((0 : Int) < (z : Int)) = true := by simp; omega
                    go_wp2_with fail
                    refine (r3Open M1 (by omega) y (by omega) w.heap.size _ _ HRp.out.own (by omega)).mono ?_
                    rintro e x3 ⟨u, rfl, hO, hg, hn⟩
                    obtain ⟨n0, n1, hn01⟩ := ownT_form hO
                    subst hn01
                    have HRq := Lib.hid (rowW_step HRp.out ⟨hO, hg, hn⟩)
                    clear hO hg hn c2
                    generalize openR M1 y = M2 at *
                    go_wp2_with fail
                    go_roundw
                    case rel => exact ⟨k + 1, M2, n0, n1, true, by omega, by go_num, rfl, rfl, HPN2, HRq⟩
                    case measure => simp [intOf]; omega
                  · have hz0 : openedR M1 y = 0 := by omega
                    have HPN2 : Hid (PassI S l2 heard M (k + 1) M1 b) := by
                      have h := HPN.out
                      rw [step_old HCM.out hz0] at h
                      exact h
                    rw [hz0]
                    clear HPN hz hz0
                    go_wp2_with fail
                    go_roundw
                    case rel => exact ⟨k + 1, M1, na, nc, b, by omega, by go_num, rfl, rfl, HPN2, HRp⟩
                    case measure => simp [intOf]; omega
                | false =>
                  have HCM := Lib.hid hm
                  clear hm
                  go_wp2_with fail
                  refine (r3Makes M1 (by omega) y HY.out _ _ (ownT_at HRo.out.own)).mono ?_
                  rintro e x2 ⟨rfl, hx2⟩
                  have HRp := Lib.hid (rowW_below HRo.out hx2)
                  have c2 := cell_glx c1 (gl_below hx2 (gl_refl [] _)) (by simp)
                  have hszp := hx2.size
                  clear hx2 c1 HRo
                  cases hz : makesB M1.contains y with
                  | true =>
                    have HPN2 : Hid (PassI S l2 heard M (k + 1) (M1 ++ [y]) true) := by
                      have h := HPN.out
                      rw [step_made HCM.out hz] at h
                      exact h
                    clear HPN hz
                    go_wp2_with (at_builtin; go_must (refine wpList_appT rfl _ _ rfl w.heap.size (.slice na M1.length nc) M1 y x2 _ rfl rfl rfl HRp.out.own (by omega) (by omega) ?_; (intro g6 c6 w6 hO6 hg6 hn6); (have HR6 := Lib.hid (rowW_step HRp.out (rowW_of hO6 hg6 hn6))); (clear hO6 hg6 hn6 c2)))
                    go_roundw
                    case rel => exact ⟨k + 1, M1 ++ [y], _, c6, true, by omega, by go_num, by rw [List.length_append]; rfl, rfl, HPN2, Lib.hid (by rw [List.length_append]; exact HR6.out)⟩
                    case measure => simp [intOf]; omega
                  | false =>
                    have HPN2 : Hid (PassI S l2 heard M (k + 1) M1 b) := by
                      have h := HPN.out
                      rw [step_not HCM.out hz] at h
                      exact h
                    clear HPN hz
                    go_wp2_with fail
                    go_roundw
                    case rel => exact ⟨k + 1, M1, na, nc, b, by omega, by go_num, rfl, rfl, HPN2, HRp⟩
                    case measure => simp [intOf]; omega
              · obtain rfl : k = l2.length := by omega
                have HMK1 := Lib.hid HP.out.mark
                have HST1 := Lib.hid (show b = false → Still l2 M1 from fun hb => by subst hb; obtain ⟨e1, e2⟩ := pass_still HP.out; rw [e1]; exact e2)
                have hlen := HP.out.len
                have hmore := HP.out.more
                have hsame := fun hb => congrArg List.length (HP.out.same hb).1
                clear HP
                go_wp2_with fail
                go_roundw
                case rel => exact ⟨M1, na, nc, b, rfl, rfl, HMK1, HST1, HRN⟩
                case measure =>
                  cases b with
                  | true => have := hmore rfl; simp [lenV, flagV]; omega
                  | false => have := hsame rfl; simp [lenV, flagV]; omega

set_option maxRecDepth 100000 in
set_option maxHeartbeats 2000000 in
theorem r3Knows (H S : List UInt8 → Bool) (hL : Least H S) (heard : List (List UInt8)) (hhl : heard.length ≤ 10000) (hhr : ∀ t ∈ heard, right t = true) (hH : ∀ t, H t = true ↔ t ∈ heard) (t : List UInt8) (ht : t.length ≤ 9000000000000000000) (vh : Value) (w : World) (hv : TermsAt vh heard w) :
    Calls Tryz.prog 13 #[vh, .string (bs t)] w fun e w' => e = .returned (.bool (right t && kn S t)) ∧ Below w.heap.size w w' := by
  obtain ⟨va, vc, rfl, _⟩ := termsAt_sp hv
  have HV := Lib.hid hv
  have HX := Lib.hid (And.intro hL (And.intro hhr hH))
  clear hv hL hhr hH
  go_enter Tryz.func13, Tryz.ntmps13
  go_wp2_with fail
  refine (refRight t ht _).mono ?_
  rintro e w1 ⟨rfl, hb1⟩
  have HV1 := Lib.hid (termsAt_glx HV.out (gl_below hb1 (gl_refl [] _)) (by simp))
  have hg1 : GL [] w w1 := gl_below hb1 (gl_refl _ _)
  clear hb1
  cases hr : right t with
  | false =>
    have HR := Lib.hid hr
    clear hr
    go_wp2_with fail
    go_ret
    exact ⟨by (rw [HR.out]) <;> first | rfl | (simp; done), gl_to_below hg1⟩
  | true =>
    have HR := Lib.hid hr
    clear hr
    go_wp2_with fail
    refine (r3Made H S HX.out.1 heard hhl HX.out.2.1 HX.out.2.2 t ht _ _ HV1.out).mono ?_
    rintro e w2 ⟨u, M, all, rfl, hO2, hb2, _, _, hta, hkn, hml⟩
    have HK : Hid (M.contains t = kn S t) := hkn t (hta HR.out)
    obtain ⟨ua, uc, rfl⟩ := ownT_form hO2
    have HO2 := Lib.hid hO2
    have hg2 : GL [] w w2 := gl_below hb2 hg1
    clear hO2 hb2 hta hkn
    go_wp2_with fail
    refine (r3Has t M (by omega) _ _ (ownT_at HO2.out)).mono ?_
    rintro e w3 ⟨rfl, hb3⟩
    rw [HK.out]
    go_wp2_with fail
    go_ret
    exact ⟨by (rw [HR.out]) <;> first | rfl | (simp; done), gl_to_below (gl_below hb3 hg2)⟩
end Go.Proofs.YtdipkblmcloifaaGreatDoor
