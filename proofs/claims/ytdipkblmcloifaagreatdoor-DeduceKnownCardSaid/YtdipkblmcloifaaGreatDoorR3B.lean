/- The document's layer 3: what a term that can be made gives. -/
import Derived.Test.YtdipkblmcloifaaGreatDoorR3A
import Derived.Maps.AppendAt
set_option linter.unusedSimpArgs false
set_option linter.unusedVariables false
namespace Go.Proofs.YtdipkblmcloifaaGreatDoor
open Go.RowKit

/-- A row of terms of one's own. -/
def OwnT (lo : Nat) (v : Value) (xs : List (List UInt8)) (w : World) : Prop := w.ownsRow lo 28 1 v xs.length (xs.map fun y => .string (bs y))
theorem ownT_nil (lo : Nat) (w : World) : OwnT lo (.slice none 0 0) [] w := World.ownsRow_nil _ _ _ _
theorem ownT_form {lo : Nat} {v : Value} {xs : List (List UInt8)} {w : World} (h : OwnT lo v xs w) : ∃ ad c, v = .slice ad xs.length c := by
  obtain ⟨ad, m, c, rfl⟩ := own_slice h
  have := own_len h
  subst this
  exact ⟨ad, c, rfl⟩
theorem ownT_at {lo : Nat} {v : Value} {xs : List (List UInt8)} {w : World} (h : OwnT lo v xs w) : TermsAt v xs w := by
  obtain ⟨ad, c, rfl⟩ := ownT_form h
  exact (own_terms h).1
theorem ownT_gl {lo : Nat} {v : Value} {xs : List (List UInt8)} {rs : List Nat} {w w' : World} (h : OwnT lo v xs w) (hg : GL rs w w') (hr : ∀ r ∈ rs, v.ownBlock ≠ some r) : OwnT lo v xs w' := own_gl h hg hr
theorem ownT_below {lo : Nat} {v : Value} {xs : List (List UInt8)} {w w' : World} (h : OwnT lo v xs w) (hb : Below w.heap.size w w') : OwnT lo v xs w' := own_gl h (gl_below hb (gl_refl [] _)) (by simp)
theorem ownT_blk {lo : Nat} {v : Value} {xs : List (List UInt8)} {w : World} (h : OwnT lo v xs w) : ∀ g, v.ownBlock = some g → lo ≤ g ∧ g < w.heap.size := World.ownsRow.lt h
theorem ownT_lo {lo lo' : Nat} {v : Value} {xs : List (List UInt8)} {w : World} (h : OwnT lo v xs w) (hl : ∀ g, v.ownBlock = some g → lo' ≤ g) : OwnT lo' v xs w := by
  refine ⟨h.1, ?_⟩
  rcases h.2 with h | ⟨g, cap, cur, rfl, _, h1⟩
  · exact .inl h
  · exact .inr ⟨g, cap, cur, rfl, hl g rfl, h1⟩
theorem wpList_appT {ops : Array Oper} {rest : List Oper} {o : Oper} {a : Act} {Q : Exit → Act → World → Prop} (hgd : o.guard = none) (s x : Operand)
    (ho : o.op = .call { callee := .builtin .append, args := #[s, x], argTypes := #[22, 22] })
    (lo : Nat) (v : Value) (xs : List (List UInt8)) (y : List UInt8) (w0 w : World) (hw : w = w0.alloc (.cells #[.string (bs y)] 28)) (hs : a.eval s = v) (hx : a.eval x = .slice (some ⟨w0.heap.size, 0, none⟩) 1 1)
    (hown : OwnT lo v xs w0) (hlen : xs.length ≤ 1000000000000) (hlo : lo ≤ w0.heap.size)
    (h : ∀ g c w', OwnT lo (.slice (some ⟨g, 0, none⟩) (xs.length + 1) c) (xs ++ [y]) w' → GL v.ownBlock.toList w0 w' → (v.ownBlock = some g ∨ w0.heap.size < g) → wpList Tryz.prog ops Q rest (a.put o.dst (.slice (some ⟨g, 0, none⟩) (xs.length + 1) c)) w') : wpList Tryz.prog ops Q (o :: rest) a w := by
  obtain ⟨t0, ht0, ht1, ht2, ht3⟩ := info_parts Tryz.infoTerm
  subst hw
  refine wpList_append_own_at _ hgd s x 22 ho lo 28 t0 (.string ByteArray.empty) 1 16 Tryz.underlying22 ht0 ht1 ht2 ht3 rfl (by decide) v xs.length (xs.map fun y => .string (bs y)) hs (own_alloc hown _) ⟨w0.heap.size, 0, none⟩ 1 1 [.string (bs y)] hx rfl (cell_one_at rfl) (one1 rfl) (by unfold maxLen; omega) (by omega) (by simp; omega) ?_
  intro v' w' h1 h2 h3 h4
  have e1 : (xs.map fun y => Value.string (bs y)) ++ [.string (bs y)] = (xs ++ [y]).map fun y => .string (bs y) := by simp
  rw [e1] at h1
  have h5 : OwnT lo v' (xs ++ [y]) w' := by unfold OwnT; rw [List.length_append]; exact h1
  obtain ⟨g, c, hv, _⟩ := own_cells h5 (by simp)
  have hv2 : v' = .slice (some ⟨g, 0, none⟩) (xs.length + 1) c := by rw [hv, List.length_append]; rfl
  subst hv2
  refine h g c w' h5 (gl_step (gl_grown h2 (gl_refl _ _) (fun r hr => .inl (Option.mem_toList.2 hr))) (gl_alloc (gl_refl _ _) _) (fun r hr => .inl hr)) ?_
  rcases h4 with h4 | h4
  · exact .inl h4.symm
  · refine .inr ?_
    have : g = (w0.alloc (.cells #[.string (bs y)] 28)).heap.size := by simpa [Value.ownBlock] using h4
    rw [this]; simp
theorem noblk {α : Prop} {n m : Nat} {c : Nat} {b o k : Nat} (h : Value.slice none n m = .slice (some ⟨b, o, none⟩) k c) : α := by cases h

set_option maxRecDepth 100000 in
set_option maxHeartbeats 2000000 in
theorem r3Parts (M : List (List UInt8)) (hM : M.length ≤ 9000000000000000000) (t : List UInt8) (ht : t.length ≤ 9000000000000000000) (v : Value) (w : World) (hv : TermsAt v M w) :
    Calls Tryz.prog 36 #[v, .string (bs t)] w fun e w' => ∃ u, e = .returned u ∧ TermsAt u (partsR M t) w' ∧ (∀ b o n c, u = .slice (some ⟨b, o, none⟩) n c → w.heap.size ≤ b) ∧ Below w.heap.size w w' := by
  obtain ⟨va, vc, rfl, _⟩ := termsAt_sp hv
  have HV := Lib.hid hv
  clear hv
  cases hr : rt t with
  | none =>
    have H : Hid (partsR M t = []) := by show _ = _; unfold partsR; rw [hr]
    have HR := Lib.hid hr
    clear hr
    go_enter Tryz.func36, Tryz.ntmps36
    go_wp2_with fail
    refine (refOpen t ht _).mono ?_
    rintro e w1 hp
    rw [HR.out] at hp
    obtain ⟨rfl, hb1⟩ := hp
    go_wp2_with fail
    go_ret
    exact ⟨_, by first | rfl | (simp; done), by rw [H.out]; exact .inl ⟨none, 0, rfl, rfl⟩, fun b o n c h => noblk h, by (repeat' (first | with_reducible exact Below.refl _ _ | with_reducible assumption | with_reducible refine below_alloc ?_ ?_ _ | with_reducible refine Below.setCell ?_ ?_ _ | with_reducible refine Below.drew ?_ | with_reducible refine below_drewN ?_ _ | with_reducible refine below_step (by assumption) ?_ ?_ | (with_reducible refine Below.trans ?_ (Below.mono (by assumption) ?_)) | exact Nat.le_refl _ | (simp; done) | (simp; omega) | omega))⟩
  | some s =>
    have HR := Lib.hid hr
    by_cases h84 : s.op.toNat = 84
    · have H : Hid (partsR M t = s.kids) := by show _ = _; unfold partsR; rw [hr]; simp only; rw [if_pos h84]
      have b84 : (((s.op.toNat : Nat) : Int) == 84) = true := by simp [h84]
      clear hr h84
      go_enter Tryz.func36, Tryz.ntmps36
      go_wp2_with fail
      refine (refOpen t ht _).mono ?_
      rintro e w1 hp
      rw [HR.out] at hp
      obtain ⟨ad, kn, kc, rfl, hown, hb1⟩ := hp
      obtain ⟨hts, hkn, hge⟩ := own_terms hown
      have HTS := Lib.hid hts
      have HGE := Lib.hid hge
      subst hkn
      clear hown hts hge
      go_wp2_with fail
      go_ret
      refine ⟨_, by first | rfl | (simp; done), by rw [H.out]; exact termsAt_glx HTS.out (gl_alloc (gl_refl [] _) _) (by simp), fun b o n c h => ?_, by (repeat' (first | with_reducible exact Below.refl _ _ | with_reducible assumption | with_reducible refine below_alloc ?_ ?_ _ | with_reducible refine Below.setCell ?_ ?_ _ | with_reducible refine Below.drew ?_ | with_reducible refine below_drewN ?_ _ | with_reducible refine below_step (by assumption) ?_ ?_ | (with_reducible refine Below.trans ?_ (Below.mono (by assumption) ?_)) | exact Nat.le_refl _ | (simp; done) | (simp; omega) | omega))⟩
      injection h with h1 h2 h3
      exact HGE.out b o kc (by rw [h1])
    · have b84 : (((s.op.toNat : Nat) : Int) == 84) = false := by simp; omega
      by_cases h66 : s.op.toNat = 66
      · obtain ⟨a, b, hks, hra, hrb, hla, hlb⟩ := rt_two_kids hr (by rw [show s.op = 66 from UInt8.toNat_inj.1 h66]; rfl)
        have b66 : (((s.op.toNat : Nat) : Int) == 66) = true := by simp [h66]
        have H : Hid (partsR M t = if M.contains a = true then [b] else []) := by
          show _ = _; unfold partsR; rw [hr]; simp only; rw [if_neg h84, hks]; simp [h66]
        have HKS := Lib.hid hks
        clear hr h84 h66
        go_enter Tryz.func36, Tryz.ntmps36
        go_wp2_with fail
        refine (refOpen t ht _).mono ?_
        rintro e w1 hp
        rw [HR.out] at hp
        obtain ⟨ad, kn, kc, rfl, hown, hb1⟩ := hp
        rw [HKS.out] at hown
        obtain ⟨g, cap, hv, hgb, hgw, hcap, hcap2, hcell⟩ := own_cells hown (by simp)
        injection hv with hv1 hv2 hv3
        subst hv1 hv2 hv3
        have c0 := dcell_alloc (hcell 0 (.string (bs a)) rfl) (.cells #[.int .u8 s.op.toNat, .int .i64 (numOf s), .string (bs s.text), .slice (some ⟨g, 0, none⟩) 2 kc] 63)
        have c1 := dcell_alloc (hcell 1 (.string (bs b)) rfl) (.cells #[.int .u8 s.op.toNat, .int .i64 (numOf s), .string (bs s.text), .slice (some ⟨g, 0, none⟩) 2 kc] 63)
        have HV1 := Lib.hid (termsAt_glx HV.out (gl_alloc (gl_below hb1 (gl_refl [] _)) (.cells #[.int .u8 s.op.toNat, .int .i64 (numOf s), .string (bs s.text), .slice (some ⟨g, 0, none⟩) 2 kc] 63)) (by simp))
        have HP := Lib.hid (blk_new w1 (.cells #[.int .u8 s.op.toNat, .int .i64 (numOf s), .string (bs s.text), .slice (some ⟨g, 0, none⟩) 2 kc] 63))
        have hb2 : Below w.heap.size w (w1.alloc (.cells #[.int .u8 s.op.toNat, .int .i64 (numOf s), .string (bs s.text), .slice (some ⟨g, 0, none⟩) 2 kc] 63)) := by (repeat' (first | with_reducible exact Below.refl _ _ | with_reducible assumption | with_reducible refine below_alloc ?_ ?_ _ | with_reducible refine Below.setCell ?_ ?_ _ | with_reducible refine Below.drew ?_ | with_reducible refine below_drewN ?_ _ | with_reducible refine below_step (by assumption) ?_ ?_ | (with_reducible refine Below.trans ?_ (Below.mono (by assumption) ?_)) | exact Nat.le_refl _ | (simp; done) | (simp; omega) | omega))
        have hg1 := hb1.size
        simp only [List.length_cons, List.length_nil, Nat.zero_add, Nat.reduceAdd] at hcap
        clear hcell hown HKS
        go_wp2_with fail
        generalize w1.alloc (.cells #[.int .u8 s.op.toNat, .int .i64 (numOf s), .string (bs s.text), .slice (some ⟨g, 0, none⟩) 2 kc] 63) = v1 at *
        generalize w1.heap.size = B at *
        refine (r3Has a M hM _ _ HV1.out).mono ?_
        rintro e w2 ⟨rfl, hb3⟩
        have hb4 : Below w.heap.size w w2 := by (repeat' (first | with_reducible exact Below.refl _ _ | with_reducible assumption | with_reducible refine below_alloc ?_ ?_ _ | with_reducible refine Below.setCell ?_ ?_ _ | with_reducible refine Below.drew ?_ | with_reducible refine below_drewN ?_ _ | with_reducible refine below_step (by assumption) ?_ ?_ | (with_reducible refine Below.trans ?_ (Below.mono (by assumption) ?_)) | exact Nat.le_refl _ | (simp; done) | (simp; omega) | omega))
        have HP2 := Lib.hid (blk_below HP.out hb3 (blk_lt HP.out))
        have d1 := dcell_below c1 hb3
        have f3a := blk_cell HP2.out
        have f3b := blk_free HP2.out
        have f3c := blk_lt HP2.out
        clear c0 c1
        cases hm : M.contains a with
        | false =>
          have HH : Hid (partsR M t = []) := by show _ = _; rw [H.out, hm]; rfl
          clear hm
          go_wp2_with fail
          go_ret
          exact ⟨_, by first | rfl | (simp; done), by rw [HH.out]; exact .inl ⟨none, 0, rfl, rfl⟩, fun b o n c h => noblk h, hb4⟩
        | true =>
          have HH : Hid (partsR M t = [b]) := by show _ = _; rw [H.out, hm]; rfl
          clear hm
          have i1 : (1 : Int) ≤ kc := by omega
          go_wp2_with fail
          go_ret
          refine ⟨_, by first | rfl | (simp; done), ?_, fun b o n c h => ?_, hb4⟩
          · rw [HH.out]
            refine .inr ⟨g, 1, _, rfl, Nat.lt_of_lt_of_le hgw (by have := hb3.size; omega), fun k u hk => ?_⟩
            match k, hk with
            | 0, hk => injection hk with hk; rw [← hk]; exact d1
            | k + 1, hk => simp at hk
          · injection h with h1 h2 h3
            injection h1 with h1
            injection h1 with h1 h2 h3
            omega
      · have b66 : (((s.op.toNat : Nat) : Int) == 66) = false := by simp; omega
        have H : Hid (partsR M t = []) := by show _ = _; unfold partsR; rw [hr]; simp only; rw [if_neg h84, if_neg (fun h => h66 h.1)]
        clear hr h84 h66
        go_enter Tryz.func36, Tryz.ntmps36
        go_wp2_with fail
        refine (refOpen t ht _).mono ?_
        rintro e w1 hp
        rw [HR.out] at hp
        obtain ⟨ad, kn, kc, rfl, hown, hb1⟩ := hp
        clear hown
        go_wp2_with fail
        go_ret
        exact ⟨_, by first | rfl | (simp; done), by rw [H.out]; exact .inl ⟨none, 0, rfl, rfl⟩, fun b o n c h => noblk h, by (repeat' (first | with_reducible exact Below.refl _ _ | with_reducible assumption | with_reducible refine below_alloc ?_ ?_ _ | with_reducible refine Below.setCell ?_ ?_ _ | with_reducible refine Below.drew ?_ | with_reducible refine below_drewN ?_ _ | with_reducible refine below_step (by assumption) ?_ ?_ | (with_reducible refine Below.trans ?_ (Below.mono (by assumption) ?_)) | exact Nat.le_refl _ | (simp; done) | (simp; omega) | omega))⟩

end Go.Proofs.YtdipkblmcloifaaGreatDoor
