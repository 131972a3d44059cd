/- The laws of layer 21: a pair hears a term, sends a text. -/
import Derived.Test.YtaaiaahkakkleaaGreatDoorPlC
import Derived.Deep.RegionLaw
set_option maxRecDepth 100000
set_option maxHeartbeats 4000000
set_option linter.unusedSimpArgs false
set_option linter.unusedVariables false
namespace Go.Proofs.YtaaiaahkakkleaaGreatDoor
open Go.RowKit
theorem step_append_run {P : Program} {w w' : World} {ops : Array Oper} {o : Oper} {a : Act} {K : Act → World → Prop} {Q : Exit → Act → World → Prop} {E : Prop} (hgd : o.guard = none) (s x : Operand) (t : TypeId)
  (ho : o.op = .call { callee := .builtin .append, args := #[s, x], argTypes := #[t, t] }) (v xv u : Value) (hs : a.eval s = v) (hx : a.eval x = xv) (hr : (Builtin.append_ #[t, t] o.type #[v, xv]).run P w = .ok u w')
  (h : K (a.put o.dst u) w') : if Region.wanted o (yielded ops a.tmps) = true then Oper.wp P o a w K Q else E := by
 have hw : Region.wanted o (yielded ops a.tmps) = true := by simp [Region.wanted, hgd]
 rw [if_pos hw]
 unfold Oper.wp execOp
 simp only [ho, resolve, invoke, builtin, Sem.run_bind, Sem.run_pure, Result.andThen_ok, List.map_toArray, List.map_cons, List.map_nil, hs, hx, hr]
 exact h
theorem gl_low {rs : List Nat} {w w' : World} {lo : Nat} (hg : GL rs w w') (hr : ∀ r ∈ rs, lo ≤ r) (hl : lo ≤ w.heap.size) : Below lo w w' :=
 ⟨hg.os, hg.tape, hg.output, hg.size, fun k hk => hg.block k om_ (fun hm => by have := hr k hm; omega)⟩
def FreeOf (Pb X0 X1 Y0 Y1 : Nat) (v0 v1 : Value) (S : Nat) : Prop := S ≠ Pb ∧ S ≠ X0 ∧ S ≠ X1 ∧ S ≠ Y0 ∧ S ≠ Y1 ∧ v0.ownBlock ≠ some S ∧ v1.ownBlock ≠ some S
def KeepsF (Pb X0 X1 Y0 Y1 : Nat) (v0 v1 v0' v1' : Value) (w w' : World) : Prop := ∀ S o, FreeOf Pb X0 X1 Y0 Y1 v0 v1 S → w.heap[S]? = some o → w'.heap[S]? = some o ∧ FreeOf Pb X0 X1 Y0 Y1 v0' v1' S
theorem keep_gl {rs : List Nat} {w w' : World} (hg : GL rs w w') {S : Nat} {o : _} (h : w.heap[S]? = some o) (hn : S ∉ rs) : w'.heap[S]? = some o := (hg.block S (Array.getElem?_eq_some_iff.1 h).1 hn).trans h
def PairPost (lo Pb X0 X1 Y0 Y1 : Nat) (v0 v1 : Value) (m : Nat) (w : World) (e : Ending) (w' : World) : Prop :=
 e = .returned (.bool true) ∧ Below lo w w' ∧ ∃ v0' v1' q0 q1, PairAt w' lo Pb X0 X1 Y0 Y1 v0' v1' q0 q1 m ∧ KeepsF Pb X0 X1 Y0 Y1 v0 v1 v0' v1' w w'
theorem lHear0 (t : List UInt8) (ht : t.length ≤ 9000000000000000000) (lo Pb X0 X1 Y0 Y1 : Nat) (v0 v1 : Value) (q0 q1 : List (List UInt8)) (m : Nat) (w : World) (h : PairAt w lo Pb X0 X1 Y0 Y1 v0 v1 q0 q1 m) (hm : m ≤ 1000000) (hG : GOk w) :
  Calls Tryz.prog 30 #[.pointer (some ⟨Pb, 0, none⟩), .int .i64 0, .string (bs t)] w (PairPost lo Pb X0 X1 Y0 Y1 v0 v1 (m + 1) w) := by
 obtain ⟨a0, c0, rfl⟩ := queT_form h.u0
 obtain ⟨a1, c1, rfl⟩ := queT_form h.u1
 have hlow := h.low
 have hne := h.ne
 have l0 := side_lt h.s0
 have l1 := side_lt h.s1
 have lp := blk_lt h.blk
 have hbj := queT_blk h.u1
 have hmc := h.c0
 obtain ⟨say, tx, is, er, Mid, lsay, hzz, hcx, hcy⟩ := sideHear t ht X0 Y0 om_ w h.s0 om_ hG
 have HH := Lib.hid h
 clear hzz
 have HCX := Lib.hid hcx
 have HCY := Lib.hid hcy
 have f0 := blk_cell h.blk
 have f1 := blk_free h.blk
 have f2 := blk_lt h.blk
 clear h hcx hcy hG
 go_enter Tryz.func30, Tryz.ntmps30
 go_wp2_with fail
 refine HCX.out.mono ?_
 rintro e w1 ⟨rfl, hg1, hm1⟩
 have HP1 := Lib.hid (blk_gl HH.out.blk hg1 so_)
 have hsz1 := hg1.size
 clear f0 f1 f2
 have f0 := blk_cell HP1.out
 have f1 := blk_free HP1.out
 have f2 := blk_lt HP1.out
 go_wp2_with fail
 clear f0 f1 f2
 have HHd := Lib.hid (blk_new w1 (.cells #[.string (bs say), .string (bs tx), .bool is] 53))
 have hg2 : GL [] w1 (w1.alloc (.cells #[.string (bs say), .string (bs tx), .bool is] 53)) := gl_alloc (gl_refl _ _) _
 have hcall := HCY.out w1 _ hm1 hg2
 have hszH : w1.heap.size < (w1.alloc (.cells #[.string (bs say), .string (bs tx), .bool is] 53)).heap.size := by simp
 generalize w1.alloc (.cells #[.string (bs say), .string (bs tx), .bool is] 53) = w2 at *
 have hYH : Y0 ≠ w1.heap.size := by omega
 have hwH : w.heap.size ≤ w1.heap.size := hsz1
 generalize w1.heap.size = H at *
 refine hcall.mono ?_
 clear hcall HCY HCX hm1
 rintro e w3 ⟨rfl, hg3, hs3⟩
 have hg13 : GL [X0, Y0] w w3 := gl_step hg3 (gl_step hg2 (gl_step hg1 (gl_refl _ _) (fun r hr => .inl (by simp at hr; simp [hr]))) si_) (fun r hr => .inl (by simp at hr; simp [hr]))
 have HQ := Lib.hid (pair_step0 HH.out hg13 hs3)
 have HH3 := Lib.hid (blk_gl HHd.out hg3 so_)
 have hsz3 := hg13.size
 have hb3 : Below lo w w3 := gl_low hg13 (fun r hr => by simp at hr; omega) om_
 have HKN := Lib.hid (show KeepsF Pb X0 X1 Y0 Y1 (.slice a0 q0.length c0) (.slice a1 q1.length c1) (.slice a0 q0.length c0) (.slice a1 q1.length c1) w w3 from fun S o hf hS => ⟨keep_gl hg13 hS (by unfold FreeOf at hf; simp; omega), hf⟩)
 clear hs3 hg1 hg2 hg3 HP1
 have p0 := blk_cell HQ.out.blk
 have p1 := blk_free HQ.out.blk
 have p2 := blk_lt HQ.out.blk
 have h0 := blk_cell HH3.out
 have h1 := blk_free HH3.out
 have h2 := blk_lt HH3.out
 by_cases her : er = 0
 · have b1 : (er == 0) = true := by simpa using her
   by_cases hsay : say = []
   · have b2 : say.isEmpty = true := by rw [hsay]; rfl
     clear her hsay
     go_wp2_with fail
     go_ret
     exact ⟨by first | rfl | (simp; done), hb3, _, _, _, _, pair_more HQ.out om_, HKN.out⟩
   · have b2 : say.isEmpty = false := by cases say with
      | nil => exact absurd rfl hsay
      | cons _ _ => rfl
     clear her hsay
     obtain ⟨g, o, c, w4, hrun, hq4, hg4, hat, hgl⟩ := run_append_que lo (.slice a1 q1.length c1) q1 say w3 HQ.out.u1 om_ om_ _ rfl
     have HP4 := Lib.hid (blk_gl HQ.out.blk hg4 (fun hx => (HQ.out.d1 _ (own_some hx)).1 rfl))
     have HH4 := Lib.hid (blk_gl HH3.out hg4 (fun hx => by have := hbj _ (own_some hx); omega))
     have hb4 : Below lo w w4 := hb3.trans (gl_low hg4 (fun r hr => (hbj r (own_some hr)).1) om_)
     have hb5 : Below lo w (w4.setCell ⟨Pb, 5, none⟩ (.slice (some ⟨g, o, none⟩) (q1.length + 1) c)) := hb4.trans (gl_low (gl_seti (p := ⟨Pb, 5, none⟩) (rs := [Pb]) si_ (gl_refl _ _) _) (fun r hr => by simp at hr; omega) (by have := hb4.size; omega))
     have HKP := Lib.hid (show KeepsF Pb X0 X1 Y0 Y1 (.slice a0 q0.length c0) (.slice a1 q1.length c1) (.slice a0 q0.length c0) (.slice (some ⟨g, o, none⟩) (q1.length + 1) c) w (w4.setCell ⟨Pb, 5, none⟩ (.slice (some ⟨g, o, none⟩) (q1.length + 1) c)) from fun S ob hf hS => by
      obtain ⟨e1, e2⟩ := HKN.out S ob hf hS
      have e3 := keep_gl hg4 e1 (fun hx => e2.2.2.2.2.2.2 (own_some hx))
      have hSl : S < w.heap.size := (Array.getElem?_eq_some_iff.1 hS).1
      refine ⟨keep_gl (gl_seti (p := ⟨Pb, 5, none⟩) (rs := [Pb]) si_ (gl_refl _ _) _) e3 (by simp; exact e2.1), e2.1, e2.2.1, e2.2.2.1, e2.2.2.2.1, e2.2.2.2.2.1, e2.2.2.2.2.2.1, ?_⟩
      intro hx
      simp [Value.ownBlock] at hx
      subst hx
      rcases hat with hat | hat
      · exact e2.2.2.2.2.2.2 hat
      · omega)
     have HQ4 := Lib.hid hq4
     have HG4 := Lib.hid hg4
     have HAT := Lib.hid hat
     have HB5 := Lib.hid hb5
     have p4 := blk_cell HP4.out
     have p5 := blk_free HP4.out
     have p6 := blk_lt HP4.out
     have h4 := blk_cell HH4.out
     have h5 := blk_free HH4.out
     have h6 := blk_lt HH4.out
     have hne4 : H ≠ Pb := by omega
     have HRUN := Lib.hid hrun
     clear hrun hq4 hg4 hat hb4 hb5
     have hwr : IntKind.i64.wrap 1 = 1 := rfl
     go_wp2_with fail
     go_region_law (refine step_append_run rfl _ _ 31 rfl _ _ _ rfl rfl HRUN.out ?_)
     all_goals
      go_wp2_with fail
      go_ret
      exact ⟨by first | rfl | (simp; done), HB5.out, _, _, _, _, pair_push0 HQ.out lsay HQ4.out HG4.out HAT.out hgl, HKP.out⟩
 · have b1 : (er == 0) = false := by simpa using her
   clear her
   go_wp2_with fail
   go_ret
   exact ⟨by first | rfl | (simp; done), hb3, _, _, _, _, pair_more HQ.out om_, HKN.out⟩
theorem lSend0 (s : List UInt8) (hs : s.length ≤ 1000000) (lo Pb X0 X1 Y0 Y1 : Nat) (v0 v1 : Value) (q0 q1 : List (List UInt8)) (m : Nat) (w : World) (h : PairAt w lo Pb X0 X1 Y0 Y1 v0 v1 q0 q1 m) (hm : m ≤ 1000000) (hG : GOk w) :
  Calls Tryz.prog 31 #[.pointer (some ⟨Pb, 0, none⟩), .int .i64 0, .string (bs s)] w (PairPost lo Pb X0 X1 Y0 Y1 v0 v1 (m + 1) w) := by
 obtain ⟨a0, c0, rfl⟩ := queT_form h.u0
 obtain ⟨a1, c1, rfl⟩ := queT_form h.u1
 have hlow := h.low
 have hne := h.ne
 have l0 := side_lt h.s0
 have l1 := side_lt h.s1
 have lp := blk_lt h.blk
 have hbj := queT_blk h.u1
 have hmc := h.c0
 obtain ⟨say, er, Mid, lsay, hcx, hcy⟩ := sideSend s hs X0 Y0 om_ w h.s0 om_ hG
 have HH := Lib.hid h
 skip
 have HCX := Lib.hid hcx
 have HCY := Lib.hid hcy
 have f0 := blk_cell h.blk
 have f1 := blk_free h.blk
 have f2 := blk_lt h.blk
 clear h hcx hcy hG
 go_enter Tryz.func31, Tryz.ntmps31
 go_wp2_with fail
 refine HCX.out.mono ?_
 rintro e w1 ⟨rfl, hg1, hm1⟩
 have HP1 := Lib.hid (blk_gl HH.out.blk hg1 so_)
 have hsz1 := hg1.size
 clear f0 f1 f2
 have f0 := blk_cell HP1.out
 have f1 := blk_free HP1.out
 have f2 := blk_lt HP1.out
 go_wp2_with fail
 clear f0 f1 f2
 have hg2 : GL [] w1 w1 := gl_refl _ _
 have hcall := HCY.out w1 _ hm1 hg2
 obtain ⟨w2, hw2⟩ : ∃ x, x = w1 := ⟨_, rfl⟩
 subst hw2
 refine hcall.mono ?_
 clear hcall HCY HCX hm1
 rintro e w3 ⟨rfl, hg3, hs3⟩
 have hg13 : GL [X0, Y0] w w3 := gl_step hg3 (gl_step hg2 (gl_step hg1 (gl_refl _ _) (fun r hr => .inl (by simp at hr; simp [hr]))) si_) (fun r hr => .inl (by simp at hr; simp [hr]))
 have HQ := Lib.hid (pair_step0 HH.out hg13 hs3)
 skip
 have hsz3 := hg13.size
 have hb3 : Below lo w w3 := gl_low hg13 (fun r hr => by simp at hr; omega) om_
 have HKN := Lib.hid (show KeepsF Pb X0 X1 Y0 Y1 (.slice a0 q0.length c0) (.slice a1 q1.length c1) (.slice a0 q0.length c0) (.slice a1 q1.length c1) w w3 from fun S o hf hS => ⟨keep_gl hg13 hS (by unfold FreeOf at hf; simp; omega), hf⟩)
 clear hs3 hg1 hg2 hg3 HP1
 have p0 := blk_cell HQ.out.blk
 have p1 := blk_free HQ.out.blk
 have p2 := blk_lt HQ.out.blk
 by_cases her : er = 0
 · have b1 : (er == 0) = true := by simpa using her
   clear her
   obtain ⟨g, o, c, w4, hrun, hq4, hg4, hat, hgl⟩ := run_append_que lo (.slice a1 q1.length c1) q1 say w3 HQ.out.u1 om_ om_ _ rfl
   have HP4 := Lib.hid (blk_gl HQ.out.blk hg4 (fun hx => (HQ.out.d1 _ (own_some hx)).1 rfl))
   have hb4 : Below lo w w4 := hb3.trans (gl_low hg4 (fun r hr => (hbj r (own_some hr)).1) om_)
   have hb5 : Below lo w (w4.setCell ⟨Pb, 5, none⟩ (.slice (some ⟨g, o, none⟩) (q1.length + 1) c)) := hb4.trans (gl_low (gl_seti (p := ⟨Pb, 5, none⟩) (rs := [Pb]) si_ (gl_refl _ _) _) (fun r hr => by simp at hr; omega) (by have := hb4.size; omega))
   have HKP := Lib.hid (show KeepsF Pb X0 X1 Y0 Y1 (.slice a0 q0.length c0) (.slice a1 q1.length c1) (.slice a0 q0.length c0) (.slice (some ⟨g, o, none⟩) (q1.length + 1) c) w (w4.setCell ⟨Pb, 5, none⟩ (.slice (some ⟨g, o, none⟩) (q1.length + 1) c)) from fun S ob hf hS => by
    obtain ⟨e1, e2⟩ := HKN.out S ob hf hS
    have e3 := keep_gl hg4 e1 (fun hx => e2.2.2.2.2.2.2 (own_some hx))
    have hSl : S < w.heap.size := (Array.getElem?_eq_some_iff.1 hS).1
    refine ⟨keep_gl (gl_seti (p := ⟨Pb, 5, none⟩) (rs := [Pb]) si_ (gl_refl _ _) _) e3 (by simp; exact e2.1), e2.1, e2.2.1, e2.2.2.1, e2.2.2.2.1, e2.2.2.2.2.1, e2.2.2.2.2.2.1, ?_⟩
    intro hx
    simp [Value.ownBlock] at hx
    subst hx
    rcases hat with hat | hat
    · exact e2.2.2.2.2.2.2 hat
    · omega)
   have HQ4 := Lib.hid hq4
   have HG4 := Lib.hid hg4
   have HAT := Lib.hid hat
   have HB5 := Lib.hid hb5
   have p4 := blk_cell HP4.out
   have p5 := blk_free HP4.out
   have p6 := blk_lt HP4.out
   have HRUN := Lib.hid hrun
   clear hrun hq4 hg4 hat hb4 hb5
   have hwr : IntKind.i64.wrap 1 = 1 := rfl
   go_wp2_with fail
   go_region_law (refine step_append_run rfl _ _ 31 rfl _ _ _ rfl rfl HRUN.out ?_)
   all_goals
    go_wp2_with fail
    go_ret
    exact ⟨by first | rfl | (simp; done), HB5.out, _, _, _, _, pair_push0 HQ.out lsay HQ4.out HG4.out HAT.out hgl, HKP.out⟩
 · have b1 : (er == 0) = false := by simpa using her
   clear her
   go_wp2_with fail
   go_ret
   exact ⟨by first | rfl | (simp; done), hb3, _, _, _, _, pair_more HQ.out om_, HKN.out⟩
theorem lHear1 (t : List UInt8) (ht : t.length ≤ 9000000000000000000) (lo Pb X0 X1 Y0 Y1 : Nat) (v0 v1 : Value) (q0 q1 : List (List UInt8)) (m : Nat) (w : World) (h : PairAt w lo Pb X0 X1 Y0 Y1 v0 v1 q0 q1 m) (hm : m ≤ 1000000) (hG : GOk w) :
  Calls Tryz.prog 30 #[.pointer (some ⟨Pb, 0, none⟩), .int .i64 1, .string (bs t)] w (PairPost lo Pb X0 X1 Y0 Y1 v0 v1 (m + 1) w) := by
 obtain ⟨a0, c0, rfl⟩ := queT_form h.u0
 obtain ⟨a1, c1, rfl⟩ := queT_form h.u1
 have hlow := h.low
 have hne := h.ne
 have l0 := side_lt h.s0
 have l1 := side_lt h.s1
 have lp := blk_lt h.blk
 have hbj := queT_blk h.u0
 have hmc := h.c0
 obtain ⟨say, tx, is, er, Mid, lsay, hzz, hcx, hcy⟩ := sideHear t ht X1 Y1 om_ w h.s1 om_ hG
 have HH := Lib.hid h
 clear hzz
 have HCX := Lib.hid hcx
 have HCY := Lib.hid hcy
 have f0 := blk_cell h.blk
 have f1 := blk_free h.blk
 have f2 := blk_lt h.blk
 clear h hcx hcy hG
 go_enter Tryz.func30, Tryz.ntmps30
 go_wp2_with fail
 refine HCX.out.mono ?_
 rintro e w1 ⟨rfl, hg1, hm1⟩
 have HP1 := Lib.hid (blk_gl HH.out.blk hg1 so_)
 have hsz1 := hg1.size
 clear f0 f1 f2
 have f0 := blk_cell HP1.out
 have f1 := blk_free HP1.out
 have f2 := blk_lt HP1.out
 go_wp2_with fail
 clear f0 f1 f2
 have HHd := Lib.hid (blk_new w1 (.cells #[.string (bs say), .string (bs tx), .bool is] 53))
 have hg2 : GL [] w1 (w1.alloc (.cells #[.string (bs say), .string (bs tx), .bool is] 53)) := gl_alloc (gl_refl _ _) _
 have hcall := HCY.out w1 _ hm1 hg2
 have hszH : w1.heap.size < (w1.alloc (.cells #[.string (bs say), .string (bs tx), .bool is] 53)).heap.size := by simp
 generalize w1.alloc (.cells #[.string (bs say), .string (bs tx), .bool is] 53) = w2 at *
 have hYH : Y1 ≠ w1.heap.size := by omega
 have hwH : w.heap.size ≤ w1.heap.size := hsz1
 generalize w1.heap.size = H at *
 refine hcall.mono ?_
 clear hcall HCY HCX hm1
 rintro e w3 ⟨rfl, hg3, hs3⟩
 have hg13 : GL [X1, Y1] w w3 := gl_step hg3 (gl_step hg2 (gl_step hg1 (gl_refl _ _) (fun r hr => .inl (by simp at hr; simp [hr]))) si_) (fun r hr => .inl (by simp at hr; simp [hr]))
 have HQ := Lib.hid (pair_step1 HH.out hg13 hs3)
 have HH3 := Lib.hid (blk_gl HHd.out hg3 so_)
 have hsz3 := hg13.size
 have hb3 : Below lo w w3 := gl_low hg13 (fun r hr => by simp at hr; omega) om_
 have HKN := Lib.hid (show KeepsF Pb X0 X1 Y0 Y1 (.slice a0 q0.length c0) (.slice a1 q1.length c1) (.slice a0 q0.length c0) (.slice a1 q1.length c1) w w3 from fun S o hf hS => ⟨keep_gl hg13 hS (by unfold FreeOf at hf; simp; omega), hf⟩)
 clear hs3 hg1 hg2 hg3 HP1
 have p0 := blk_cell HQ.out.blk
 have p1 := blk_free HQ.out.blk
 have p2 := blk_lt HQ.out.blk
 have h0 := blk_cell HH3.out
 have h1 := blk_free HH3.out
 have h2 := blk_lt HH3.out
 by_cases her : er = 0
 · have b1 : (er == 0) = true := by simpa using her
   by_cases hsay : say = []
   · have b2 : say.isEmpty = true := by rw [hsay]; rfl
     clear her hsay
     go_wp2_with fail
     go_ret
     exact ⟨by first | rfl | (simp; done), hb3, _, _, _, _, pair_more HQ.out om_, HKN.out⟩
   · have b2 : say.isEmpty = false := by cases say with
      | nil => exact absurd rfl hsay
      | cons _ _ => rfl
     clear her hsay
     obtain ⟨g, o, c, w4, hrun, hq4, hg4, hat, hgl⟩ := run_append_que lo (.slice a0 q0.length c0) q0 say w3 HQ.out.u0 om_ om_ _ rfl
     have HP4 := Lib.hid (blk_gl HQ.out.blk hg4 (fun hx => (HQ.out.d0 _ (own_some hx)).1 rfl))
     have HH4 := Lib.hid (blk_gl HH3.out hg4 (fun hx => by have := hbj _ (own_some hx); omega))
     have hb4 : Below lo w w4 := hb3.trans (gl_low hg4 (fun r hr => (hbj r (own_some hr)).1) om_)
     have hb5 : Below lo w (w4.setCell ⟨Pb, 4, none⟩ (.slice (some ⟨g, o, none⟩) (q0.length + 1) c)) := hb4.trans (gl_low (gl_seti (p := ⟨Pb, 4, none⟩) (rs := [Pb]) si_ (gl_refl _ _) _) (fun r hr => by simp at hr; omega) (by have := hb4.size; omega))
     have HKP := Lib.hid (show KeepsF Pb X0 X1 Y0 Y1 (.slice a0 q0.length c0) (.slice a1 q1.length c1) (.slice (some ⟨g, o, none⟩) (q0.length + 1) c) (.slice a1 q1.length c1) w (w4.setCell ⟨Pb, 4, none⟩ (.slice (some ⟨g, o, none⟩) (q0.length + 1) c)) from fun S ob hf hS => by
      obtain ⟨e1, e2⟩ := HKN.out S ob hf hS
      have e3 := keep_gl hg4 e1 (fun hx => e2.2.2.2.2.2.1 (own_some hx))
      have hSl : S < w.heap.size := (Array.getElem?_eq_some_iff.1 hS).1
      refine ⟨keep_gl (gl_seti (p := ⟨Pb, 4, none⟩) (rs := [Pb]) si_ (gl_refl _ _) _) e3 (by simp; exact e2.1), e2.1, e2.2.1, e2.2.2.1, e2.2.2.2.1, e2.2.2.2.2.1, ?_, e2.2.2.2.2.2.2⟩
      intro hx
      simp [Value.ownBlock] at hx
      subst hx
      rcases hat with hat | hat
      · exact e2.2.2.2.2.2.1 hat
      · omega)
     have HQ4 := Lib.hid hq4
     have HG4 := Lib.hid hg4
     have HAT := Lib.hid hat
     have HB5 := Lib.hid hb5
     have p4 := blk_cell HP4.out
     have p5 := blk_free HP4.out
     have p6 := blk_lt HP4.out
     have h4 := blk_cell HH4.out
     have h5 := blk_free HH4.out
     have h6 := blk_lt HH4.out
     have hne4 : H ≠ Pb := by omega
     have HRUN := Lib.hid hrun
     clear hrun hq4 hg4 hat hb4 hb5
     have hwr : IntKind.i64.wrap 0 = 0 := rfl
     go_wp2_with fail
     go_region_law (refine step_append_run rfl _ _ 31 rfl _ _ _ rfl rfl HRUN.out ?_)
     all_goals
      go_wp2_with fail
      go_ret
      exact ⟨by first | rfl | (simp; done), HB5.out, _, _, _, _, pair_push1 HQ.out lsay HQ4.out HG4.out HAT.out hgl, HKP.out⟩
 · have b1 : (er == 0) = false := by simpa using her
   clear her
   go_wp2_with fail
   go_ret
   exact ⟨by first | rfl | (simp; done), hb3, _, _, _, _, pair_more HQ.out om_, HKN.out⟩
theorem lSend1 (s : List UInt8) (hs : s.length ≤ 1000000) (lo Pb X0 X1 Y0 Y1 : Nat) (v0 v1 : Value) (q0 q1 : List (List UInt8)) (m : Nat) (w : World) (h : PairAt w lo Pb X0 X1 Y0 Y1 v0 v1 q0 q1 m) (hm : m ≤ 1000000) (hG : GOk w) :
  Calls Tryz.prog 31 #[.pointer (some ⟨Pb, 0, none⟩), .int .i64 1, .string (bs s)] w (PairPost lo Pb X0 X1 Y0 Y1 v0 v1 (m + 1) w) := by
 obtain ⟨a0, c0, rfl⟩ := queT_form h.u0
 obtain ⟨a1, c1, rfl⟩ := queT_form h.u1
 have hlow := h.low
 have hne := h.ne
 have l0 := side_lt h.s0
 have l1 := side_lt h.s1
 have lp := blk_lt h.blk
 have hbj := queT_blk h.u0
 have hmc := h.c0
 obtain ⟨say, er, Mid, lsay, hcx, hcy⟩ := sideSend s hs X1 Y1 om_ w h.s1 om_ hG
 have HH := Lib.hid h
 skip
 have HCX := Lib.hid hcx
 have HCY := Lib.hid hcy
 have f0 := blk_cell h.blk
 have f1 := blk_free h.blk
 have f2 := blk_lt h.blk
 clear h hcx hcy hG
 go_enter Tryz.func31, Tryz.ntmps31
 go_wp2_with fail
 refine HCX.out.mono ?_
 rintro e w1 ⟨rfl, hg1, hm1⟩
 have HP1 := Lib.hid (blk_gl HH.out.blk hg1 so_)
 have hsz1 := hg1.size
 clear f0 f1 f2
 have f0 := blk_cell HP1.out
 have f1 := blk_free HP1.out
 have f2 := blk_lt HP1.out
 go_wp2_with fail
 clear f0 f1 f2
 have hg2 : GL [] w1 w1 := gl_refl _ _
 have hcall := HCY.out w1 _ hm1 hg2
 obtain ⟨w2, hw2⟩ : ∃ x, x = w1 := ⟨_, rfl⟩
 subst hw2
 refine hcall.mono ?_
 clear hcall HCY HCX hm1
 rintro e w3 ⟨rfl, hg3, hs3⟩
 have hg13 : GL [X1, Y1] w w3 := gl_step hg3 (gl_step hg2 (gl_step hg1 (gl_refl _ _) (fun r hr => .inl (by simp at hr; simp [hr]))) si_) (fun r hr => .inl (by simp at hr; simp [hr]))
 have HQ := Lib.hid (pair_step1 HH.out hg13 hs3)
 skip
 have hsz3 := hg13.size
 have hb3 : Below lo w w3 := gl_low hg13 (fun r hr => by simp at hr; omega) om_
 have HKN := Lib.hid (show KeepsF Pb X0 X1 Y0 Y1 (.slice a0 q0.length c0) (.slice a1 q1.length c1) (.slice a0 q0.length c0) (.slice a1 q1.length c1) w w3 from fun S o hf hS => ⟨keep_gl hg13 hS (by unfold FreeOf at hf; simp; omega), hf⟩)
 clear hs3 hg1 hg2 hg3 HP1
 have p0 := blk_cell HQ.out.blk
 have p1 := blk_free HQ.out.blk
 have p2 := blk_lt HQ.out.blk
 by_cases her : er = 0
 · have b1 : (er == 0) = true := by simpa using her
   clear her
   obtain ⟨g, o, c, w4, hrun, hq4, hg4, hat, hgl⟩ := run_append_que lo (.slice a0 q0.length c0) q0 say w3 HQ.out.u0 om_ om_ _ rfl
   have HP4 := Lib.hid (blk_gl HQ.out.blk hg4 (fun hx => (HQ.out.d0 _ (own_some hx)).1 rfl))
   have hb4 : Below lo w w4 := hb3.trans (gl_low hg4 (fun r hr => (hbj r (own_some hr)).1) om_)
   have hb5 : Below lo w (w4.setCell ⟨Pb, 4, none⟩ (.slice (some ⟨g, o, none⟩) (q0.length + 1) c)) := hb4.trans (gl_low (gl_seti (p := ⟨Pb, 4, none⟩) (rs := [Pb]) si_ (gl_refl _ _) _) (fun r hr => by simp at hr; omega) (by have := hb4.size; omega))
   have HKP := Lib.hid (show KeepsF Pb X0 X1 Y0 Y1 (.slice a0 q0.length c0) (.slice a1 q1.length c1) (.slice (some ⟨g, o, none⟩) (q0.length + 1) c) (.slice a1 q1.length c1) w (w4.setCell ⟨Pb, 4, none⟩ (.slice (some ⟨g, o, none⟩) (q0.length + 1) c)) from fun S ob hf hS => by
    obtain ⟨e1, e2⟩ := HKN.out S ob hf hS
    have e3 := keep_gl hg4 e1 (fun hx => e2.2.2.2.2.2.1 (own_some hx))
    have hSl : S < w.heap.size := (Array.getElem?_eq_some_iff.1 hS).1
    refine ⟨keep_gl (gl_seti (p := ⟨Pb, 4, none⟩) (rs := [Pb]) si_ (gl_refl _ _) _) e3 (by simp; exact e2.1), e2.1, e2.2.1, e2.2.2.1, e2.2.2.2.1, e2.2.2.2.2.1, ?_, e2.2.2.2.2.2.2⟩
    intro hx
    simp [Value.ownBlock] at hx
    subst hx
    rcases hat with hat | hat
    · exact e2.2.2.2.2.2.1 hat
    · omega)
   have HQ4 := Lib.hid hq4
   have HG4 := Lib.hid hg4
   have HAT := Lib.hid hat
   have HB5 := Lib.hid hb5
   have p4 := blk_cell HP4.out
   have p5 := blk_free HP4.out
   have p6 := blk_lt HP4.out
   have HRUN := Lib.hid hrun
   clear hrun hq4 hg4 hat hb4 hb5
   have hwr : IntKind.i64.wrap 0 = 0 := rfl
   go_wp2_with fail
   go_region_law (refine step_append_run rfl _ _ 31 rfl _ _ _ rfl rfl HRUN.out ?_)
   all_goals
    go_wp2_with fail
    go_ret
    exact ⟨by first | rfl | (simp; done), HB5.out, _, _, _, _, pair_push1 HQ.out lsay HQ4.out HG4.out HAT.out hgl, HKP.out⟩
 · have b1 : (er == 0) = false := by simpa using her
   clear her
   go_wp2_with fail
   go_ret
   exact ⟨by first | rfl | (simp; done), hb3, _, _, _, _, pair_more HQ.out om_, HKN.out⟩
end Go.Proofs.YtaaiaahkakkleaaGreatDoor
