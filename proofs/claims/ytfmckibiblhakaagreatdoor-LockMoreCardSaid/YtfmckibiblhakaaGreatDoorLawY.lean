/- The laws of layer 11: LockMore. -/
import Derived.Test.YtfmckibiblhakaaGreatDoorLawK
import Derived.Test.YtfmckibiblhakaaGreatDoorLawX0
import Derived.Test.YtfmckibiblhakaaGreatDoorLawY1
import Derived.Deep.CutRange
import Derived.Test.YtfmckibiblhakaaGreatDoorAppN
set_option linter.unusedSimpArgs false
set_option linter.unusedVariables false
namespace Go.Proofs.YtfmckibiblhakaaGreatDoor
open Go.RowKit

/-- Terms are appended. -/
theorem wpList_append_terms {P : Program} {ops : Array Oper} {rest : List Oper} {o : Oper} {a : Act} {w : World} {Q : Exit → Act → World → Prop} (hgd : o.guard = none) (s x : Operand) (t : TypeId)
    (ho : o.op = .call { callee := .builtin .append, args := #[s, x], argTypes := #[t, t] })
    (base : Nat) (e : TypeId) (i : TypeInfo) (z : Value) (bytes : Nat) (ht : P.underlying t = some (.slice e)) (hi : P.info? e = some i) (hz : i.zero = some z)
    (hsize : i.size = 1) (hby : i.bytes = bytes) (hzs : z.cells.size = 1)
    (v : Value) (n : Nat) (xs : List Value) (hs : a.eval s = v) (hown : w.ownsRow base e 1 v n xs)
    (u : Value) (ts : List (List UInt8)) (hx : a.eval x = u) (hu : TermsAt u ts w)
    (h63 : n + ts.length ≤ maxLen) (hbytes : (n + ts.length) * bytes ≤ 140737488355328) (hbase : base ≤ w.heap.size)
    (h : ∀ v' w', w'.ownsRow base e 1 v' (n + ts.length) (xs ++ ts.map fun y => .string (bs y)) → w.grownBy w' v.ownBlock → wpList P ops Q rest (a.put o.dst v') w') : wpList P ops Q (o :: rest) a w := by
  rcases hu with ⟨ad, c, hu, hts⟩ | ⟨b, off, c, hu, hb, hc⟩
  · subst hts
    cases ad with
    | none =>
      refine wpList_append_none hgd s x t ho base e i 1 ht hi v n xs hs hown c (hx.trans hu) (h v w ?_ ⟨rfl, rfl, rfl, Nat.le_refl _, fun _ _ _ => rfl⟩)
      simpa using hown
    | some b =>
      exact wpList_append_own w hgd s x t ho base e i z 1 bytes ht hi hz hsize hby hzs (by decide) v n xs hs hown b 0 c [] (hx.trans hu) rfl (by simp) (by simp) h63 hbytes hbase (fun v' w' a1 a2 _ => h v' w' a1 a2)
  · exact wpList_append_own w hgd s x t ho base e i z 1 bytes ht hi hz hsize hby hzs (by decide) v n xs hs hown ⟨b, off, none⟩ ts.length c (ts.map fun y => .string (bs y)) (hx.trans hu) (by simp)
      (fun j y hj => by
        rw [List.getElem?_map, Option.map_eq_some_iff] at hj
        obtain ⟨t0, h1, rfl⟩ := hj
        rw [Addr.add_lit]
        exact hc j t0 h1) (fun y hy => by rw [List.mem_map] at hy; obtain ⟨t0, _, rfl⟩ := hy; rfl) h63 hbytes hbase (fun v' w' a1 a2 _ => h v' w' a1 a2)
def IsLarge (a b : Nat) (e : Ending) : Prop := ∃ bl : Bool, e = .returned (.bool bl) ∧ (bl = false → a ≤ 20 ∧ b ≤ 20)
set_option maxRecDepth 100000 in
set_option maxHeartbeats 4000000 in
theorem lLargeN (sa pa : Option Addr) (sc pc : Nat) (sigs pres : List (List UInt8)) (msg : List UInt8) (w : World) (hS : TermsAt (.slice sa sigs.length sc) sigs w) (hP : TermsAt (.slice pa pres.length pc) pres w) (hsn : sigs.length ≤ 9000000000000000000) (hpn : pres.length ≤ 9000000000000000000) :
    Calls Tryz.prog 27 #[.agg #[.slice sa sigs.length sc, .slice pa pres.length pc], .string (bs msg)] w fun e w' => Below w.heap.size w w' ∧ IsLarge sigs.length pres.length e := by
  have HS := Lib.hid hS
  have HP := Lib.hid hP
  clear hS hP
  go_enter Tryz.func27, Tryz.ntmps27
  go_wp2
  go_loopw [5, 6] (fun nv iv wr => ∃ (j : Nat) (s : Int), j ≤ sigs.length ∧ iv = .int .i64 j ∧ nv = .int .i64 s ∧ Hid (wr.heap[w.heap.size]? = some (.cells #[.slice sa sigs.length sc, .slice pa pres.length pc] 40 (0, 0))) ∧ Hid (GL [] w wr)) (fun _ iv _ => sigs.length - (intOf iv).toNat)
  case atStart => exact ⟨0, _, by omega, rfl, rfl, Lib.hid (blk_new w _), Lib.hid (by (repeat' (first | with_reducible exact gl_refl _ _ | with_reducible assumption | with_reducible refine gl_alloc ?_ _ | with_reducible refine gl_drewN ?_ _ | with_reducible refine gl_drew ?_ | (with_reducible refine gl_setn ?_ ?_ _; · (first | exact Nat.le_refl _ | (simp; done) | (simp; omega) | omega)) | (with_reducible refine gl_seti ?_ ?_ _; · (simp; done)) | with_reducible refine gl_below (by with_reducible assumption) ?_ | with_reducible refine gl_step (by with_reducible assumption) ?_ (by first | (simp; done) | (simp; omega)) | with_reducible refine gl_grown (by with_reducible assumption) ?_ (by first | (simp; done) | (simp; omega)))))⟩
  case round =>
    obtain ⟨j, s, hj, rfl, rfl, H1, hgr⟩ := hrel
    have f1 := blk_cell H1.out
    have e1 := blk_free H1.out
    by_cases hlt : j < sigs.length
    · have i1 : (j : Int) < sigs.length := by omega
      rcases HS.out with ⟨_, _, h0, h1⟩ | ⟨b, o, c, h0, hb, hc⟩
      · subst h1; simp at hlt
      injection h0 with h01 h02 h03
      subst h01 h03
      have hx : sigs[j]? = some sigs[j] := List.getElem?_eq_getElem hlt
      have c0 : wr.cell? ⟨b, o + j, none⟩ = some (.string (bs sigs[j])) := by
        have := hc j _ hx
        simp only [World.cell?, hgr.out.block b hb (by simp)] at this ⊢
        exact this
      generalize sigs[j] = tt at *
      clear hc hx HS h02
      go_wp2
      go_roundw
      case rel => exact ⟨j + 1, _, by omega, by go_num, rfl, H1, hgr⟩
      case measure => simp [intOf]; omega
    · obtain rfl : j = sigs.length := by omega
      have i4 : decide ((sigs.length : Int) < sigs.length) = false := by simp
      go_wp2
      go_loopw [5, 7] (fun nv iv wr => ∃ (j : Nat) (s : Int), j ≤ pres.length ∧ iv = .int .i64 j ∧ nv = .int .i64 s ∧ Hid (wr.heap[w.heap.size]? = some (.cells #[.slice sa sigs.length sc, .slice pa pres.length pc] 40 (0, 0))) ∧ Hid (GL [] w wr)) (fun _ iv _ => pres.length - (intOf iv).toNat)
      case atStart => exact ⟨0, _, by omega, rfl, rfl, H1, hgr⟩
      case round =>
        obtain ⟨j, s, hj, rfl, rfl, H1, hgr⟩ := hrel
        have f1 := blk_cell H1.out
        have e1 := blk_free H1.out
        by_cases hlt : j < pres.length
        · have i1 : (j : Int) < pres.length := by omega
          rcases HP.out with ⟨_, _, h0, h1⟩ | ⟨b, o, c, h0, hb, hc⟩
          · subst h1; simp at hlt
          injection h0 with h01 h02 h03
          subst h01 h03
          have hx : pres[j]? = some pres[j] := List.getElem?_eq_getElem hlt
          have c0 : wr.cell? ⟨b, o + j, none⟩ = some (.string (bs pres[j])) := by
            have := hc j _ hx
            simp only [World.cell?, hgr.out.block b hb (by simp)] at this ⊢
            exact this
          generalize pres[j] = tt at *
          clear hc hx HP h02
          go_wp2
          go_roundw
          case rel => exact ⟨j + 1, _, by omega, by go_num, rfl, H1, hgr⟩
          case measure => simp [intOf]; omega
        · obtain rfl : j = pres.length := by omega
          have i4 : decide ((pres.length : Int) < pres.length) = false := by simp
          go_wp2
          all_goals
            go_ret
            exact ⟨gl_to_below hgr.out, ⟨_, rfl, fun hh => by simp at hh <;> omega⟩⟩


theorem own_terms {w : World} {base n c : Nat} {ad : Option Addr} {ts : List (List UInt8)} (h : w.ownsRow base 22 1 (.slice ad n c) ts.length (ts.map fun y => .string (bs y))) : TermsAt (.slice ad n c) ts w := by
  have hlen := own_len h
  by_cases hz : ts.length = 0
  · exact .inl ⟨ad, c, by rw [hlen, hz], List.eq_nil_of_length_eq_zero hz⟩
  · obtain ⟨g, cap, hv, hgb, hgw, _, _, hcell⟩ := own_cells h (by omega)
    refine .inr ⟨g, 0, cap, hv, hgw, fun i u hi => ?_⟩
    rw [Nat.zero_add]
    exact hcell i _ (by simp [hi])
theorem blk_new_at {w : World} {n : Nat} {cs : Array Value} {T : Nat} (h : n = w.heap.size) : (w.alloc (.cells cs T)).heap[n]? = some (.cells cs T (0, 0)) := by
  subst h; exact blk_new w (.cells cs T)
theorem up_1 {a b : Nat} (h : a + 1 ≤ b) : a < b ∧ a ≤ b ∧ a ≤ b + 1 ∧ a ≤ b + 1 + 1 ∧ a < b + 1 ∧ a < b + 1 + 1 := by omega
theorem tr_1 {a b c : Nat} (h : a + 1 ≤ b) (h2 : b ≤ c) : a < c := by omega
theorem up_2 {a b : Nat} (h : a + 1 + 1 ≤ b) : a < b ∧ a ≤ b ∧ a ≤ b + 1 ∧ a ≤ b + 1 + 1 ∧ a < b + 1 ∧ a < b + 1 + 1 ∧ a + 1 < b ∧ a + 1 ≤ b ∧ a + 1 ≤ b + 1 ∧ a + 1 ≤ b + 1 + 1 ∧ a + 1 < b + 1 ∧ a + 1 < b + 1 + 1 := by omega
theorem tr_2 {a b c : Nat} (h : a + 1 + 1 ≤ b) (h2 : b ≤ c) : a < c ∧ a + 1 < c := by omega
theorem up_3 {a b : Nat} (h : a + 1 + 1 + 1 ≤ b) : a < b ∧ a ≤ b ∧ a ≤ b + 1 ∧ a ≤ b + 1 + 1 ∧ a < b + 1 ∧ a < b + 1 + 1 ∧ a + 1 < b ∧ a + 1 ≤ b ∧ a + 1 ≤ b + 1 ∧ a + 1 ≤ b + 1 + 1 ∧ a + 1 < b + 1 ∧ a + 1 < b + 1 + 1 ∧ a + 1 + 1 < b ∧ a + 1 + 1 ≤ b ∧ a + 1 + 1 ≤ b + 1 ∧ a + 1 + 1 ≤ b + 1 + 1 ∧ a + 1 + 1 < b + 1 ∧ a + 1 + 1 < b + 1 + 1 := by omega
theorem tr_3 {a b c : Nat} (h : a + 1 + 1 + 1 ≤ b) (h2 : b ≤ c) : a < c ∧ a + 1 < c ∧ a + 1 + 1 < c := by omega
theorem up_4 {a b : Nat} (h : a + 1 + 1 + 1 + 1 ≤ b) : a < b ∧ a ≤ b ∧ a ≤ b + 1 ∧ a ≤ b + 1 + 1 ∧ a < b + 1 ∧ a < b + 1 + 1 ∧ a + 1 < b ∧ a + 1 ≤ b ∧ a + 1 ≤ b + 1 ∧ a + 1 ≤ b + 1 + 1 ∧ a + 1 < b + 1 ∧ a + 1 < b + 1 + 1 ∧ a + 1 + 1 < b ∧ a + 1 + 1 ≤ b ∧ a + 1 + 1 ≤ b + 1 ∧ a + 1 + 1 ≤ b + 1 + 1 ∧ a + 1 + 1 < b + 1 ∧ a + 1 + 1 < b + 1 + 1 ∧ a + 1 + 1 + 1 < b ∧ a + 1 + 1 + 1 ≤ b ∧ a + 1 + 1 + 1 ≤ b + 1 ∧ a + 1 + 1 + 1 ≤ b + 1 + 1 ∧ a + 1 + 1 + 1 < b + 1 ∧ a + 1 + 1 + 1 < b + 1 + 1 := by omega
theorem tr_4 {a b c : Nat} (h : a + 1 + 1 + 1 + 1 ≤ b) (h2 : b ≤ c) : a < c ∧ a + 1 < c ∧ a + 1 + 1 < c ∧ a + 1 + 1 + 1 < c := by omega
theorem le_1 {b c : Nat} (h : b + 1 ≤ c) : b ≤ c := by omega
theorem le_2 {b c : Nat} (h : b + 1 + 1 ≤ c) : b ≤ c := by omega
theorem le_3 {b c : Nat} (h : b + 1 + 1 + 1 ≤ c) : b ≤ c := by omega
theorem le_4 {b c : Nat} (h : b + 1 + 1 + 1 + 1 ≤ c) : b ≤ c := by omega
theorem blk4 {w : World} {B T : Nat} {v0 v1 v2 v3 : Value} (h : w.heap[B]? = some (.cells #[.int .u8 0, .string (bs []), .int .i64 0, .slice none 0 0] T (0, 0))) : ((((w.setCell ⟨B, 0, none⟩ v0).setCell ⟨B, 1, none⟩ v1).setCell ⟨B, 2, none⟩ v2).setCell ⟨B, 3, none⟩ v3).heap[B]? = some (.cells #[v0, v1, v2, v3] T (0, 0)) :=
  blk_set (blk_set (blk_set (blk_set h 0 v0) 1 v1) 2 v2) 3 v3
theorem blk_ne4 {w : World} {B A : Nat} {x : Obj} {v0 v1 v2 v3 : Value} (hp : B ≠ A) (h : w.heap[B]? = some x) : ((((w.setCell ⟨A, 0, none⟩ v0).setCell ⟨A, 1, none⟩ v1).setCell ⟨A, 2, none⟩ v2).setCell ⟨A, 3, none⟩ v3).heap[B]? = some x :=
  blk_ne (blk_ne (blk_ne (blk_ne h (p := ⟨A, 0, none⟩) hp v0) (p := ⟨A, 1, none⟩) hp v1) (p := ⟨A, 2, none⟩) hp v2) (p := ⟨A, 3, none⟩) hp v3
theorem gl_set4 {rs : List Nat} {w w1 : World} {A : Nat} {v0 v1 v2 v3 : Value} (hp : A ∈ rs ∨ w.heap.size ≤ A) (h : GL rs w w1) : GL rs w ((((w1.setCell ⟨A, 0, none⟩ v0).setCell ⟨A, 1, none⟩ v1).setCell ⟨A, 2, none⟩ v2).setCell ⟨A, 3, none⟩ v3) :=
  gl_set (gl_set (gl_set (gl_set h (p := ⟨A, 0, none⟩) hp v0) (p := ⟨A, 1, none⟩) hp v1) (p := ⟨A, 2, none⟩) hp v2) (p := ⟨A, 3, none⟩) hp v3
/-- Both locks are made: where they lie. -/
def Both13 (w0 : World) (a b : LT) (s21 s22 : Value) (wx : World) : Prop :=
  ∃ (A5 A6 : Nat) (ad5 ad6 : Option Addr) (c5 c6 : Nat), s21 = .pointer (some ⟨A5, 0, none⟩) ∧ s22 = .pointer (some ⟨A6, 0, none⟩) ∧
    wx.heap[A5]? = some (.cells #[.int .u8 5, .string (bs []), .int .i64 0, .slice ad5 2 c5] 25 (0, 0)) ∧ wx.heap[A6]? = some (.cells #[.int .u8 6, .string (bs []), .int .i64 0, .slice ad6 2 c6] 25 (0, 0)) ∧
    LockIn (fun _ => True) wx (bothL 5 a b) (.agg #[.int .u8 5, .string (bs []), .int .i64 0, .slice ad5 2 c5]) ∧ LockIn (fun _ => True) wx (bothL 6 a b) (.agg #[.int .u8 6, .string (bs []), .int .i64 0, .slice ad6 2 c6]) ∧ GL [] w0 wx
theorem lock_two {w0 W wk WF : World} {x : LT} {v : Value} {A B : Nat} (h : LockIn (fun b => b < w0.heap.size ∨ W.heap.size ≤ b) wk x v) (hg : GL [A, B] wk WF)
    (hA : w0.heap.size ≤ A ∧ (A < W.heap.size ∨ wk.heap.size ≤ A)) (hB : w0.heap.size ≤ B ∧ (B < W.heap.size ∨ wk.heap.size ≤ B)) : LockIn (fun _ => True) WF x v :=
  lockIn_stay ⟨hg.size, fun b hb hp => hg.block b hb (by simp; omega)⟩ (fun _ _ _ => trivial) x v h
theorem both13_mk {w0 W5 W6 wk5 wk6 WF : World} {a b : LT} {A5 A6 c5 c6 : Nat} {ad5 ad6 : Option Addr}
    (h5 : LockIn (fun b => b < w0.heap.size ∨ W5.heap.size ≤ b) wk5 (.mk 5 [] 0 [a, b]) (.agg #[.int .u8 5, .string (bs []), .int .i64 0, .slice ad5 2 c5])) (h6 : LockIn (fun b => b < w0.heap.size ∨ W6.heap.size ≤ b) wk6 (.mk 6 [] 0 [a, b]) (.agg #[.int .u8 6, .string (bs []), .int .i64 0, .slice ad6 2 c6]))
    (hA : WF.heap[A5]? = some (.cells #[.int .u8 5, .string (bs []), .int .i64 0, .slice ad5 2 c5] 25 (0, 0))) (hB : WF.heap[A6]? = some (.cells #[.int .u8 6, .string (bs []), .int .i64 0, .slice ad6 2 c6] 25 (0, 0)))
    (g5 : GL [A5, A6] wk5 WF) (g6 : GL [A5, A6] wk6 WF) (g : GL [] w0 WF)
    (s1 : w0.heap.size ≤ A5 ∧ (A5 < W5.heap.size ∨ wk5.heap.size ≤ A5)) (s2 : w0.heap.size ≤ A6 ∧ (A6 < W5.heap.size ∨ wk5.heap.size ≤ A6))
    (s3 : w0.heap.size ≤ A5 ∧ (A5 < W6.heap.size ∨ wk6.heap.size ≤ A5)) (s4 : w0.heap.size ≤ A6 ∧ (A6 < W6.heap.size ∨ wk6.heap.size ≤ A6)) : Both13 w0 a b (.pointer (some ⟨A5, 0, none⟩)) (.pointer (some ⟨A6, 0, none⟩)) WF :=
  ⟨A5, A6, ad5, ad6, c5, c6, rfl, rfl, hA, hB, lock_two h5 g5 s1 s2, lock_two h6 g6 s3 s4, g⟩
theorem both_in {p : Nat → Prop} {w : World} {k : Int} (hk : 0 ≤ k ∧ k ≤ 255) {a b : LT} {v : Value} (h : LockIn p w (.mk k [] 0 [a, b]) v) : LockIn p w (bothL k a b) v := h

set_option maxRecDepth 100000 in
set_option maxHeartbeats 16000000 in
theorem lLockMore (a b : LT) (va vb : Value) (q q2 : Nat → Prop) (sa pa : Option Addr) (sc pc : Nat) (sigs pres : List (List UInt8)) (msg more : List UInt8) (after age later : Int) (hmsg : msg.length ≤ 9000000000000000000) (hmore0 : more.length ≤ 9000000000000000000)
    (ra : -9223372036854775808 ≤ after ∧ after ≤ 9223372036854775807) (rg : -9223372036854775808 ≤ age ∧ age ≤ 9223372036854775807) (hl0 : -9223372036854775808 ≤ later) (hl1 : later ≤ 9223372036854775807) (w : World) (ha : LockIn q w a va) (hb : LockIn q2 w b vb)
    (hS : TermsAt (.slice sa sigs.length sc) sigs w) (hP : TermsAt (.slice pa pres.length pc) pres w)
    (hsn : sigs.length ≤ 9000000000000000000) (hpn : pres.length ≤ 9000000000000000000) (hst : ∀ s ∈ sigs, s.length ≤ 9000000000000000000) (hpt : ∀ s ∈ pres, s.length ≤ 9000000000000000000) (hG : GOk w) :
    Calls Tryz.prog 7 #[va, vb, .agg #[.slice sa sigs.length sc, .slice pa pres.length pc], .string (bs msg), .string (bs more), .int .i64 after, .int .i64 age, .int .i64 later] w fun e w' => e = .returned (.bool true) ∧ Below w.heap.size w w' := by
  have HG0 := Lib.hid hG
  have HX0 := Lib.hid (lockIn_mono (q := fun _ => True) (fun _ _ _ => trivial) _ _ ha)
  have HY0 := Lib.hid (lockIn_mono (q := fun _ => True) (fun _ _ _ => trivial) _ _ hb)
  have HS0 := Lib.hid hS
  have HP0 := Lib.hid hP
  have HST := Lib.hid hst
  have HPT := Lib.hid hpt
  have HRNA := Lib.hid ra
  have HRNG := Lib.hid rg
  obtain ⟨ka, ta, na, ksa⟩ := a
  obtain ⟨ada, ca, rfl, _⟩ := lockIn_open ha
  obtain ⟨kb, tb, nb, ksb⟩ := b
  obtain ⟨adb, cb, rfl, _⟩ := lockIn_open hb
  clear hG ha hb hS hP hst hpt
  go_enter Tryz.func7, Tryz.ntmps7
  have hg0 : GL [] w w := gl_refl _ _
  have hs0 : w.heap.size ≤ w.heap.size := Nat.le_refl _
  go_wp2_with fail
  have HX1 := Lib.hid (lockIn_gl (gl_alloc (gl_alloc (gl_alloc (gl_refl _ _) (.cells #[.int .u8 ka, .string (bs ta), .int .i64 na, .slice ada ksa.length ca] 25)) (.cells #[.int .u8 kb, .string (bs tb), .int .i64 nb, .slice adb ksb.length cb] 25)) (.cells #[.slice sa sigs.length sc, .slice pa pres.length pc] 40)) _ _ HX0.out)
  have HY1 := Lib.hid (lockIn_gl (gl_alloc (gl_alloc (gl_alloc (gl_refl _ _) (.cells #[.int .u8 ka, .string (bs ta), .int .i64 na, .slice ada ksa.length ca] 25)) (.cells #[.int .u8 kb, .string (bs tb), .int .i64 nb, .slice adb ksb.length cb] 25)) (.cells #[.slice sa sigs.length sc, .slice pa pres.length pc] 40)) _ _ HY0.out)
  have HS1 := Lib.hid (termsAt_gl HS0.out (gl_alloc (gl_alloc (gl_alloc (gl_refl _ _) (.cells #[.int .u8 ka, .string (bs ta), .int .i64 na, .slice ada ksa.length ca] 25)) (.cells #[.int .u8 kb, .string (bs tb), .int .i64 nb, .slice adb ksb.length cb] 25)) (.cells #[.slice sa sigs.length sc, .slice pa pres.length pc] 40)))
  have HP1 := Lib.hid (termsAt_gl HP0.out (gl_alloc (gl_alloc (gl_alloc (gl_refl _ _) (.cells #[.int .u8 ka, .string (bs ta), .int .i64 na, .slice ada ksa.length ca] 25)) (.cells #[.int .u8 kb, .string (bs tb), .int .i64 nb, .slice adb ksb.length cb] 25)) (.cells #[.slice sa sigs.length sc, .slice pa pres.length pc] 40)))
  have HA1 : Hid ((((w.alloc (.cells #[.int .u8 ka, .string (bs ta), .int .i64 na, .slice ada ksa.length ca] 25)).alloc (.cells #[.int .u8 kb, .string (bs tb), .int .i64 nb, .slice adb ksb.length cb] 25)).alloc (.cells #[.slice sa sigs.length sc, .slice pa pres.length pc] 40)).heap[w.heap.size]? = some (.cells #[.int .u8 ka, .string (bs ta), .int .i64 na, .slice ada ksa.length ca] 25 (0, 0))) := by
    have h := blk_new w (.cells #[.int .u8 ka, .string (bs ta), .int .i64 na, .slice ada ksa.length ca] 25)
    exact (blk_alloc (blk_alloc h (.cells #[.int .u8 kb, .string (bs tb), .int .i64 nb, .slice adb ksb.length cb] 25)) (.cells #[.slice sa sigs.length sc, .slice pa pres.length pc] 40))
  have HB1 : Hid ((((w.alloc (.cells #[.int .u8 ka, .string (bs ta), .int .i64 na, .slice ada ksa.length ca] 25)).alloc (.cells #[.int .u8 kb, .string (bs tb), .int .i64 nb, .slice adb ksb.length cb] 25)).alloc (.cells #[.slice sa sigs.length sc, .slice pa pres.length pc] 40)).heap[w.heap.size + 1]? = some (.cells #[.int .u8 kb, .string (bs tb), .int .i64 nb, .slice adb ksb.length cb] 25 (0, 0))) := by
    have h := blk_new (w.alloc (.cells #[.int .u8 ka, .string (bs ta), .int .i64 na, .slice ada ksa.length ca] 25)) (.cells #[.int .u8 kb, .string (bs tb), .int .i64 nb, .slice adb ksb.length cb] 25)
    rw [show (w.alloc (.cells #[.int .u8 ka, .string (bs ta), .int .i64 na, .slice ada ksa.length ca] 25)).heap.size = w.heap.size + 1 by simp] at h
    exact (blk_alloc h (.cells #[.slice sa sigs.length sc, .slice pa pres.length pc] 40))
  have HWB1 : Hid ((((w.alloc (.cells #[.int .u8 ka, .string (bs ta), .int .i64 na, .slice ada ksa.length ca] 25)).alloc (.cells #[.int .u8 kb, .string (bs tb), .int .i64 nb, .slice adb ksb.length cb] 25)).alloc (.cells #[.slice sa sigs.length sc, .slice pa pres.length pc] 40)).heap[w.heap.size + 1 + 1]? = some (.cells #[.slice sa sigs.length sc, .slice pa pres.length pc] 40 (0, 0))) := by
    have h := blk_new ((w.alloc (.cells #[.int .u8 ka, .string (bs ta), .int .i64 na, .slice ada ksa.length ca] 25)).alloc (.cells #[.int .u8 kb, .string (bs tb), .int .i64 nb, .slice adb ksb.length cb] 25)) (.cells #[.slice sa sigs.length sc, .slice pa pres.length pc] 40)
    rw [show ((w.alloc (.cells #[.int .u8 ka, .string (bs ta), .int .i64 na, .slice ada ksa.length ca] 25)).alloc (.cells #[.int .u8 kb, .string (bs tb), .int .i64 nb, .slice adb ksb.length cb] 25)).heap.size = w.heap.size + 1 + 1 by simp] at h
    exact h
  have HG1 := Lib.hid (gok_alloc (gok_alloc (gok_alloc HG0.out (.cells #[.int .u8 ka, .string (bs ta), .int .i64 na, .slice ada ksa.length ca] 25)) (.cells #[.int .u8 kb, .string (bs tb), .int .i64 nb, .slice adb ksb.length cb] 25)) (.cells #[.slice sa sigs.length sc, .slice pa pres.length pc] 40))
  have hg1 : GL [] w (((w.alloc (.cells #[.int .u8 ka, .string (bs ta), .int .i64 na, .slice ada ksa.length ca] 25)).alloc (.cells #[.int .u8 kb, .string (bs tb), .int .i64 nb, .slice adb ksb.length cb] 25)).alloc (.cells #[.slice sa sigs.length sc, .slice pa pres.length pc] 40)) := (gl_alloc (gl_alloc (gl_alloc hg0 (.cells #[.int .u8 ka, .string (bs ta), .int .i64 na, .slice ada ksa.length ca] 25)) (.cells #[.int .u8 kb, .string (bs tb), .int .i64 nb, .slice adb ksb.length cb] 25)) (.cells #[.slice sa sigs.length sc, .slice pa pres.length pc] 40))
  have geA : w.heap.size ≤ w.heap.size := by have := hg0.size; omega
  have gnA : gN ≤ w.heap.size := by have := HG0.out.size; omega
  have geB : w.heap.size ≤ w.heap.size + 1 := by have := hg0.size; omega
  have gnB : gN ≤ w.heap.size + 1 := by have := HG0.out.size; omega
  have ltAB : w.heap.size < w.heap.size + 1 := by omega
  have neAB : w.heap.size ≠ w.heap.size + 1 := by omega
  have neBA : w.heap.size + 1 ≠ w.heap.size := by omega
  have geWB : w.heap.size ≤ w.heap.size + 1 + 1 := by have := hg0.size; omega
  have gnWB : gN ≤ w.heap.size + 1 + 1 := by have := HG0.out.size; omega
  have ltAWB : w.heap.size < w.heap.size + 1 + 1 := by omega
  have neAWB : w.heap.size ≠ w.heap.size + 1 + 1 := by omega
  have neWBA : w.heap.size + 1 + 1 ≠ w.heap.size := by omega
  have ltBWB : w.heap.size + 1 < w.heap.size + 1 + 1 := by omega
  have neBWB : w.heap.size + 1 ≠ w.heap.size + 1 + 1 := by omega
  have neWBB : w.heap.size + 1 + 1 ≠ w.heap.size + 1 := by omega
  generalize (((w.alloc (.cells #[.int .u8 ka, .string (bs ta), .int .i64 na, .slice ada ksa.length ca] 25)).alloc (.cells #[.int .u8 kb, .string (bs tb), .int .i64 nb, .slice adb ksb.length cb] 25)).alloc (.cells #[.slice sa sigs.length sc, .slice pa pres.length pc] 40)) = w1 at *
  generalize w.heap.size + 1 + 1 = WB at *
  generalize w.heap.size + 1 = B at *
  generalize w.heap.size = A at *
  have hs1 : w.heap.size ≤ w1.heap.size := hg1.size
  refine (lkSize 100 (by omega) (by omega) (.mk ka ta na ksa) _ _ _ HX1.out).mono ?_
  rintro e w2 ⟨hb2, z1, rfl, hz10, hz11⟩
  have HWB2 := Lib.hid (blk_below HWB1.out hb2 (blk_lt HWB1.out))
  have HB2 := Lib.hid (blk_below HB1.out hb2 (blk_lt HB1.out))
  have HA2 := Lib.hid (blk_below HA1.out hb2 (blk_lt HA1.out))
  have HG2 := Lib.hid (gok_below HG1.out hb2)
  have hg2 : GL [] w w2 := gl_below hb2 hg1
  have hs2 : w.heap.size ≤ w2.heap.size := hg2.size
  have HX2 := Lib.hid (lockIn_gl (gl_below hb2 (gl_refl _ _)) _ _ HX1.out)
  have HY2 := Lib.hid (lockIn_gl (gl_below hb2 (gl_refl _ _)) _ _ HY1.out)
  have HS2 := Lib.hid (termsAt_gl HS1.out (gl_below hb2 (gl_refl _ _)))
  have HP2 := Lib.hid (termsAt_gl HP1.out (gl_below hb2 (gl_refl _ _)))
  by_cases h1 : z1 ≤ 100
  · skip
    have fh1 : decide (100 < z1) = false := by simp; omega
    have fa1 := blk_cell HB2.out
    have fb1 := blk_free HB2.out
    have fl1 := blk_lt HB2.out
    go_wp2_with fail
    refine (lkSize 100 (by omega) (by omega) (.mk kb tb nb ksb) _ _ _ HY2.out).mono ?_
    rintro e w3 ⟨hb3, z2, rfl, hz20, hz21⟩
    clear fa1 fb1 fl1
    have HWB3 := Lib.hid (blk_below HWB2.out hb3 (blk_lt HWB2.out))
    have HB3 := Lib.hid (blk_below HB2.out hb3 (blk_lt HB2.out))
    have HA3 := Lib.hid (blk_below HA2.out hb3 (blk_lt HA2.out))
    have HG3 := Lib.hid (gok_below HG2.out hb3)
    have hg3 : GL [] w w3 := gl_below hb3 hg2
    have hs3 : w.heap.size ≤ w3.heap.size := hg3.size
    have HX3 := Lib.hid (lockIn_gl (gl_below hb3 (gl_refl _ _)) _ _ HX2.out)
    have HY3 := Lib.hid (lockIn_gl (gl_below hb3 (gl_refl _ _)) _ _ HY2.out)
    have HS3 := Lib.hid (termsAt_gl HS2.out (gl_below hb3 (gl_refl _ _)))
    have HP3 := Lib.hid (termsAt_gl HP2.out (gl_below hb3 (gl_refl _ _)))
    by_cases h2 : z2 ≤ 100
    · skip
      have fh2 : decide (100 < z2) = false := by simp; omega
      have fa2 := blk_cell HWB3.out
      have fb2 := blk_free HWB3.out
      have fl2 := blk_lt HWB3.out
      go_wp2_with fail
      refine (lLargeN sa pa sc pc sigs pres msg _ HS3.out HP3.out hsn hpn).mono ?_
      rintro e w4 ⟨hb4, bl, rfl, hbl⟩
      clear fa2 fb2 fl2
      have HWB4 := Lib.hid (blk_below HWB3.out hb4 (blk_lt HWB3.out))
      have HB4 := Lib.hid (blk_below HB3.out hb4 (blk_lt HB3.out))
      have HA4 := Lib.hid (blk_below HA3.out hb4 (blk_lt HA3.out))
      have HG4 := Lib.hid (gok_below HG3.out hb4)
      have hg4 : GL [] w w4 := gl_below hb4 hg3
      have hs4 : w.heap.size ≤ w4.heap.size := hg4.size
      have HX4 := Lib.hid (lockIn_gl (gl_below hb4 (gl_refl _ _)) _ _ HX3.out)
      have HY4 := Lib.hid (lockIn_gl (gl_below hb4 (gl_refl _ _)) _ _ HY3.out)
      have HS4 := Lib.hid (termsAt_gl HS3.out (gl_below hb4 (gl_refl _ _)))
      have HP4 := Lib.hid (termsAt_gl HP3.out (gl_below hb4 (gl_refl _ _)))
      cases bl with
      | true =>
        go_wp2_with fail
        go_ret
        exact ⟨rfl, gl_to_below hg4⟩
      | false =>
        obtain ⟨hs20, hp20⟩ := hbl rfl
        clear hbl
        by_cases h4 : more.length ≤ 1000
        · skip
          have fh4 : decide (1000 < (more.length : Int)) = false := by simp; omega
          by_cases h5 : after ≤ 1099511627776
          · skip
            have fh5 : decide (1099511627776 < after) = false := by simp; omega
            by_cases h6 : age ≤ 1099511627776
            · skip
              have fh6 : decide (1099511627776 < age) = false := by simp; omega
              go_wp2_with fail
              refine (lPickK1000 later hl0 hl1 _).mono ?_
              rintro e wq ⟨rfl, hwq⟩
              have hwq2 := hwq.symm
              subst hwq2
              obtain ⟨lt, hlt0, hlt1, hlt⟩ : ∃ lt, 0 ≤ lt ∧ lt < 1000 ∧ pickM later 1000 = lt := ⟨_, (pickM_in later 1000 (by omega)).1, (pickM_in later 1000 (by omega)).2.1, rfl⟩
              rw [hlt]
              clear hlt
              have hc1 := fun (W : World) (hgw : GL [] w4 W) => lkOpens (.mk ka ta na ksa) _ _ _ _ sigs pres msg after age W (lockIn_gl hgw _ _ HX4.out) (termsAt_gl HS4.out hgw) (termsAt_gl HP4.out hgw) hsn hpn HST.out HPT.out ra rg (gok_gl HG4.out hgw (by simp))
              have hc2 := fun (W : World) (hgw : GL [] w4 W) => lkOpens (.mk kb tb nb ksb) _ _ _ _ sigs pres msg after age W (lockIn_gl hgw _ _ HY4.out) (termsAt_gl HS4.out hgw) (termsAt_gl HP4.out hgw) hsn hpn HST.out HPT.out ra rg (gok_gl HG4.out hgw (by simp))
              have hmore := fun (h : opensP sigs pres msg after age (.mk ka ta na ksa) = true) (h2 : sigs.length + 1 ≤ 16) (h3 : pres.length + 1 ≤ 16) => opensP_more (more := more) (later := lt) hlt0 h2 h3 h
              have hboth := fun (h : rightL (bothL 5 (.mk ka ta na ksa) (.mk kb tb nb ksb)) = true) => both_opens (sigs := sigs) (pres := pres) (msg := msg) (after := after) (age := age) h
              generalize opensP sigs pres msg after age (.mk ka ta na ksa) = zx at *
              generalize opensP sigs pres msg after age (.mk kb tb nb ksb) = zy at *
              have HMORE := Lib.hid hmore
              have HBOTH := Lib.hid hboth
              have HC1 := Lib.hid hc1
              have HC2 := Lib.hid hc2
              have hg44 : GL [] w4 w4 := gl_refl _ _
              clear hmore hboth hc1 hc2
              have fa3 := blk_cell HA4.out
              have fb3 := blk_free HA4.out
              have fl3 := blk_lt HA4.out
              have fa4 := blk_cell HB4.out
              have fb4 := blk_free HB4.out
              have fl4 := blk_lt HB4.out
              have fa5 := blk_cell HWB4.out
              have fb5 := blk_free HWB4.out
              have fl5 := blk_lt HWB4.out
              go_upto_region 4 with fail
              go_region_held3 (fun w' => w'.cell? ⟨A, 0, none⟩ = some (.int .u8 ka) ∧ w'.cell? ⟨A, 1, none⟩ = some (.string (bs ta)) ∧ w'.cell? ⟨A, 2, none⟩ = some (.int .i64 na) ∧ w'.cell? ⟨A, 3, none⟩ = some (.slice ada ksa.length ca) ∧ w'.cell? ⟨B, 0, none⟩ = some (.int .u8 kb) ∧ w'.cell? ⟨B, 1, none⟩ = some (.string (bs tb)) ∧ w'.cell? ⟨B, 2, none⟩ = some (.int .i64 nb) ∧ w'.cell? ⟨B, 3, none⟩ = some (.slice adb ksb.length cb) ∧ w'.cell? ⟨WB, 0, none⟩ = some (.slice sa sigs.length sc) ∧ w'.cell? ⟨WB, 1, none⟩ = some (.slice pa pres.length pc) ∧ GL [] w4 w')
                (first
                  | (refine ⟨?_, ?_, ?_, ?_, ?_, ?_, ?_, ?_, ?_, ?_, ?_⟩
                     · go_keep
                     · go_keep
                     · go_keep
                     · go_keep
                     · go_keep
                     · go_keep
                     · go_keep
                     · go_keep
                     · go_keep
                     · go_keep
                     · exact gl_drew hg44)
                  | (go_split_ands
                     refine ⟨?_, ?_, ?_, ?_, ?_, ?_, ?_, ?_, ?_, ?_, ?_⟩
                     · exact (hbk.cell (World.block_lt_of_cell? _ _ (by assumption))).trans (by assumption)
                     · exact (hbk.cell (World.block_lt_of_cell? _ _ (by assumption))).trans (by assumption)
                     · exact (hbk.cell (World.block_lt_of_cell? _ _ (by assumption))).trans (by assumption)
                     · exact (hbk.cell (World.block_lt_of_cell? _ _ (by assumption))).trans (by assumption)
                     · exact (hbk.cell (World.block_lt_of_cell? _ _ (by assumption))).trans (by assumption)
                     · exact (hbk.cell (World.block_lt_of_cell? _ _ (by assumption))).trans (by assumption)
                     · exact (hbk.cell (World.block_lt_of_cell? _ _ (by assumption))).trans (by assumption)
                     · exact (hbk.cell (World.block_lt_of_cell? _ _ (by assumption))).trans (by assumption)
                     · exact (hbk.cell (World.block_lt_of_cell? _ _ (by assumption))).trans (by assumption)
                     · exact (hbk.cell (World.block_lt_of_cell? _ _ (by assumption))).trans (by assumption)
                     · exact gl_below hbk (by assumption)))
                ((first
                  | (go_at_call 28; go_split_ands; with_reducible refine (HC1.out _ (by assumption)).mono ?_; rintro e wk ⟨rfl, hbk⟩)
                  | (go_at_call 28; go_split_ands; with_reducible refine (HC2.out _ (by assumption)).mono ?_; rintro e wk ⟨rfl, hbk⟩)))
              clear fa3 fb3 fl3 fa4 fb4 fl4 fa5 fb5 fl5
              have hgk : GL [] w4 wk := gl_below hbk (by assumption)
              clear hbk
              have HX5 := Lib.hid (lockIn_gl hgk _ _ HX4.out)
              have HY5 := Lib.hid (lockIn_gl hgk _ _ HY4.out)
              have HS5 := Lib.hid (termsAt_gl HS4.out hgk)
              have HP5 := Lib.hid (termsAt_gl HP4.out hgk)
              have HA5 := Lib.hid (blk_gl HA4.out hgk (by simp))
              have HB5 := Lib.hid (blk_gl HB4.out hgk (by simp))
              have HWB5 := Lib.hid (blk_gl HWB4.out hgk (by simp))
              have HG5 := Lib.hid (gok_gl HG4.out hgk (by simp))
              have hg5 : GL [] w wk := gl_step hgk hg4 (by simp)
              obtain ⟨w5, hw5⟩ : ∃ w5, w5 = wk := ⟨_, rfl⟩
              subst hw5
              have hst := HST.out
              have hpt := HPT.out
              obtain ⟨t0, ht0, ht1, ht2, ht3⟩ := info_parts Tryz.infoTerm
              have p1 := blk_cell HWB5.out
              have p2 := blk_free HWB5.out
              have p3 := blk_lt HWB5.out
              go_upto_region 7 with (at_builtin; go_must (refine wpList_append_terms rfl _ _ 32 rfl (w5.heap.size + 1) 22 t0 (.string ByteArray.empty) 16 Tryz.underlying32 ht0 ht1 ht2 ht3 rfl (.slice none 0 0) 0 [] rfl (World.ownsRow_nil _ _ _ _) _ sigs rfl (termsAt_gl HS5.out (gl_alloc (gl_refl _ _) _)) ?c3 ?c4 ?c5 ?_; (case c3 => (unfold maxLen; omega)); (case c4 => omega); (case c5 => simp); (intro v6 w6 ho6 hr6); (obtain ⟨a6, n6, c6, hv6⟩ := own_slice ho6); (subst hv6); (have HV6 := Lib.hid (blk_grown (blk_new w5 (.cells #[.slice none 0 0, .slice none 0 0] 40)) hr6 (by show ¬ some w5.heap.size = (Value.slice none 0 0).ownBlock; intro h; cases h))); (have q1 := blk_cell HV6.out); (have q2 := blk_free HV6.out)))
              simp only [List.nil_append, Nat.zero_add] at ho6
              obtain rfl := own_len ho6
              have hgl6 : GL [] w5 w6 := gl_grown hr6 (gl_alloc (gl_refl _ _) (.cells #[.slice none 0 0, .slice none 0 0] 40)) (fun r hr => by have hr2 : (Value.slice none 0 0).ownBlock = some r := hr; cases hr2)
              have hge6 := own_ge ho6
              have HO7 := Lib.hid (own_ne_set ho6 (p := ⟨w5.heap.size, 0, none⟩) (fun h => by have := hge6 w5.heap.size h.symm; omega) (.slice a6 sigs.length c6))
              have hg7 : GL [] w5 (w6.setCell ⟨w5.heap.size, 0, none⟩ (.slice a6 sigs.length c6)) := gl_set hgl6 (.inr (Nat.le_refl _)) _
              have HV7 : Hid ((w6.setCell ⟨w5.heap.size, 0, none⟩ (.slice a6 sigs.length c6)).heap[w5.heap.size]? = some (.cells #[.slice a6 sigs.length c6, .slice none 0 0] 40 (0, 0))) := blk_set HV6.out 0 (.slice a6 sigs.length c6)
              clear q1 q2 HV6 hr6 hgl6 hge6 ho6
              generalize (w6.setCell ⟨w5.heap.size, 0, none⟩ (.slice a6 sigs.length c6)) = w7 at *
              have q1 := blk_cell HV7.out
              have q2 := blk_free HV7.out
              have q3 := blk_lt HV7.out
              have hsz7 := hg7.size
              go_upto_region 8 with (at_builtin; go_must (refine wpList_append_own _ rfl _ _ 32 rfl (w5.heap.size + 1) 22 t0 (.string ByteArray.empty) 1 16 Tryz.underlying32 ht0 ht1 ht2 ht3 rfl (by decide) _ sigs.length _ rfl (own_alloc HO7.out _) ⟨w7.heap.size, 0, none⟩ 1 1 [.string (bs more)] rfl rfl ?c1 ?c2 ?c3 ?c4 ?c5 ?_; (case c1 => exact cell_one_at rfl); (case c2 => exact one1 rfl); (case c3 => (unfold maxLen; omega)); (case c4 => omega); (case c5 => (simp; omega)); (intro v8 w8 ho8 hr8 _); (obtain ⟨a8, n8, c8, hv8⟩ := own_slice ho8); (subst hv8); (have hgeo := own_ge HO7.out); (have HV8 := Lib.hid (blk_grown (blk_alloc HV7.out _) hr8 (fun h => by have := hgeo _ h.symm; omega))); (have r1 := blk_cell HV8.out); (have r2 := blk_free HV8.out)))
              have eS : sigs.length + 1 = (sigs ++ [more]).length := by simp
              have eT : (sigs.map fun y => Value.string (bs y)) ++ [Value.string (bs more)] = (sigs ++ [more]).map fun y => Value.string (bs y) := by simp
              rw [eT] at ho8
              obtain rfl := own_len ho8
              have hge8 := own_ge ho8
              have hgl8 : GL [] w5 w8 := gl_grown hr8 (gl_alloc hg7 _) (fun r hr => .inr (by have := hgeo r hr; omega))
              have HO9 := Lib.hid (own_ne_set ho8 (p := ⟨w5.heap.size, 0, none⟩) (fun h => by have := hge8 w5.heap.size h.symm; omega) (.slice a8 (sigs.length + 1) c8))
              have hg9 : GL [] w5 (w8.setCell ⟨w5.heap.size, 0, none⟩ (.slice a8 (sigs.length + 1) c8)) := gl_set hgl8 (.inr (Nat.le_refl _)) _
              have HV9 : Hid ((w8.setCell ⟨w5.heap.size, 0, none⟩ (.slice a8 (sigs.length + 1) c8)).heap[w5.heap.size]? = some (.cells #[.slice a8 (sigs.length + 1) c8, .slice none 0 0] 40 (0, 0))) := blk_set HV8.out 0 (.slice a8 (sigs.length + 1) c8)
              clear r1 r2 q1 q2 q3 HV8 hr8 hgl8 hge8 ho8 hgeo HO7 HV7 hg7 hsz7 eS eT
              generalize (w8.setCell ⟨w5.heap.size, 0, none⟩ (.slice a8 (sigs.length + 1) c8)) = w9 at *
              have q1 := blk_cell HV9.out
              have q2 := blk_free HV9.out
              have q3 := blk_lt HV9.out
              have hsz9 := hg9.size
              have p1b := blk_cell (blk_gl HWB5.out hg9 (by simp))
              have p2b := blk_free (blk_gl HWB5.out hg9 (by simp))
              have p3b := blk_lt (blk_gl HWB5.out hg9 (by simp))
              clear p1 p2 p3
              go_upto_region 9 with (at_builtin; go_must (refine wpList_append_terms rfl _ _ 32 rfl w9.heap.size 22 t0 (.string ByteArray.empty) 16 Tryz.underlying32 ht0 ht1 ht2 ht3 rfl (.slice none 0 0) 0 [] rfl (World.ownsRow_nil _ _ _ _) _ pres rfl (termsAt_gl HP5.out hg9) ?c3 ?c4 ?c5 ?_; (case c3 => (unfold maxLen; omega)); (case c4 => omega); (case c5 => exact Nat.le_refl _); (intro v10 w10 ho10 hr10); (obtain ⟨a10, n10, c10, hv10⟩ := own_slice ho10); (subst hv10); (have HV10 := Lib.hid (blk_grown HV9.out hr10 (by show ¬ some w5.heap.size = (Value.slice none 0 0).ownBlock; intro h; cases h))); (have r1 := blk_cell HV10.out); (have r2 := blk_free HV10.out)))
              simp only [List.nil_append, Nat.zero_add] at ho10
              obtain rfl := own_len ho10
              have hge10 := own_ge ho10
              have hlt9 := own_lt2 HO9.out
              have HOK10 := Lib.hid (HO9.out.kept hr10 (.inr (by intro h; have h2 : (Value.slice a8 (sigs.length + 1) c8).ownBlock = none := h; exact absurd h2 (by
                have := HO9.out.2
                rcases this with ⟨_, h3⟩ | ⟨g, cap, cur, h3, _⟩
                · simp at h3
                · rw [h3]; simp [Value.ownBlock]))))
              have hgl10 : GL [] w5 w10 := gl_grown hr10 hg9 (fun r hr => by have hr2 : (Value.slice none 0 0).ownBlock = some r := hr; cases hr2)
              have HOa11 := Lib.hid (own_ne_set HOK10.out (p := ⟨w5.heap.size, 1, none⟩) (fun h => by have := own_ge HO9.out w5.heap.size h.symm; omega) (.slice a10 pres.length c10))
              have HOb11 := Lib.hid (own_ne_set ho10 (p := ⟨w5.heap.size, 1, none⟩) (fun h => by have := hge10 w5.heap.size h.symm; omega) (.slice a10 pres.length c10))
              have hg11 : GL [] w5 (w10.setCell ⟨w5.heap.size, 1, none⟩ (.slice a10 pres.length c10)) := gl_set hgl10 (.inr (Nat.le_refl _)) _
              have HV11 : Hid ((w10.setCell ⟨w5.heap.size, 1, none⟩ (.slice a10 pres.length c10)).heap[w5.heap.size]? = some (.cells #[.slice a8 (sigs.length + 1) c8, .slice a10 pres.length c10] 40 (0, 0))) := blk_set HV10.out 1 (.slice a10 pres.length c10)
              have hsz11 : w9.heap.size ≤ (w10.setCell ⟨w5.heap.size, 1, none⟩ (.slice a10 pres.length c10)).heap.size := by have := hr10.size; simpa [World.setCell] using this
              clear r1 r2 q1 q2 HV10 hr10 hgl10 hge10 ho10 HOK10 HO9 HV9 hg9 p1b p2b p3b
              generalize (w10.setCell ⟨w5.heap.size, 1, none⟩ (.slice a10 pres.length c10)) = w11 at *
              have q1 := blk_cell HV11.out
              have q2 := blk_free HV11.out
              have q4 := blk_lt HV11.out
              go_upto_region 10 with (at_builtin; go_must (refine wpList_append_own _ rfl _ _ 32 rfl w9.heap.size 22 t0 (.string ByteArray.empty) 1 16 Tryz.underlying32 ht0 ht1 ht2 ht3 rfl (by decide) _ pres.length _ rfl (own_alloc HOb11.out _) ⟨w11.heap.size, 0, none⟩ 1 1 [.string (bs more)] rfl rfl ?c1 ?c2 ?c3 ?c4 ?c5 ?_; (case c1 => exact cell_one_at rfl); (case c2 => exact one1 rfl); (case c3 => (unfold maxLen; omega)); (case c4 => omega); (case c5 => (simp; omega)); (intro v12 w12 ho12 hr12 _); (obtain ⟨a12, n12, c12, hv12⟩ := own_slice ho12); (subst hv12); (have hgeo := own_ge HOb11.out); (have HV12 := Lib.hid (blk_grown (blk_alloc HV11.out _) hr12 (fun h => by have := hgeo _ h.symm; omega))); (have r1 := blk_cell HV12.out); (have r2 := blk_free HV12.out)))
              have eT : (pres.map fun y => Value.string (bs y)) ++ [Value.string (bs more)] = (pres ++ [more]).map fun y => Value.string (bs y) := by simp
              rw [eT] at ho12
              obtain rfl := own_len ho12
              have hge12 := own_ge ho12
              have HOK12 := Lib.hid ((own_alloc HOa11.out _).kept hr12 (.inr (fun h => by
                have h0 := HOa11.out.2
                rcases h0 with ⟨_, h3⟩ | ⟨g, cap, cur, h3, _⟩
                · simp at h3
                · have h4 : (Value.slice a8 (sigs.length + 1) c8).ownBlock = some g := by rw [h3]; rfl
                  have h5 := hlt9 g h4
                  have h6 := hgeo g (h.symm.trans h4)
                  omega)))
              have hgl12 : GL [] w5 w12 := gl_grown hr12 (gl_alloc hg11 _) (fun r hr => .inr (by have := hgeo r hr; omega))
              have HOa13 := own_ne_set HOK12.out (p := ⟨w5.heap.size, 1, none⟩) (fun h => by have := own_ge HOa11.out w5.heap.size h.symm; omega) (.slice a12 (pres.length + 1) c12)
              have HOb13 := own_ne_set ho12 (p := ⟨w5.heap.size, 1, none⟩) (fun h => by have := hge12 w5.heap.size h.symm; omega) (.slice a12 (pres.length + 1) c12)
              have hg13 : GL [] w5 (w12.setCell ⟨w5.heap.size, 1, none⟩ (.slice a12 (pres.length + 1) c12)) := gl_set hgl12 (.inr (Nat.le_refl _)) _
              have HV13 : Hid ((w12.setCell ⟨w5.heap.size, 1, none⟩ (.slice a12 (pres.length + 1) c12)).heap[w5.heap.size]? = some (.cells #[.slice a8 (sigs.length + 1) c8, .slice a12 (pres.length + 1) c12] 40 (0, 0))) := blk_set HV12.out 1 (.slice a12 (pres.length + 1) c12)
              clear r1 r2 q1 q2 q3 q4 HV12 hr12 hgl12 hge12 ho12 hgeo HOK12 HOa11 HOb11 HV11 hg11 eT hlt9 hsz11
              generalize (w12.setCell ⟨w5.heap.size, 1, none⟩ (.slice a12 (pres.length + 1) c12)) = w13 at *
              have HSM := Lib.hid (own_terms (ts := sigs ++ [more]) (by simpa using HOa13))
              have HPM := Lib.hid (own_terms (ts := pres ++ [more]) (by simpa using HOb13))
              clear HOa13 HOb13
              have hsz13 := hg13.size
              have HA13 := Lib.hid (blk_gl HA5.out hg13 (by simp))
              have HB13 := Lib.hid (blk_gl HB5.out hg13 (by simp))
              have HWB13 := Lib.hid (blk_gl HWB5.out hg13 (by simp))
              have HX13 := Lib.hid (lockIn_gl hg13 _ _ HX5.out)
              have HY13 := Lib.hid (lockIn_gl hg13 _ _ HY5.out)
              have HS13 := Lib.hid (termsAt_gl HS5.out hg13)
              have HP13 := Lib.hid (termsAt_gl HP5.out hg13)
              have HG13 := Lib.hid (gok_gl HG5.out hg13 (by simp))
              have hgw : GL [] w w13 := gl_step hg13 hg5 (by simp)
              have hle13 : hszW w13 ≤ w13.heap.size ∧ w13.heap.size ≤ hszW w13 := ⟨Nat.le_refl _, Nat.le_refl _⟩
              clear HX5 HY5 HS5 HP5 HG5 HA5 HB5 HWB5 hg13 hgk
              generalize w5.heap.size = VB at *
              go_cut [20] from 87 to 96 (fun s20 wx => ∃ f : Bool, s20 = .bool f ∧ (f = true → sigs.length + 1 ≤ 16 ∧ pres.length + 1 ≤ 16) ∧ wx = w13)
              case first =>
                have v1 := blk_cell HV13.out
                have v2 := blk_free HV13.out
                have v3 := blk_lt HV13.out
                clear HMORE HBOTH
                by_cases fs : sigs.length + 1 ≤ 16
                · have g1 : decide ((sigs.length : Int) + 1 ≤ 16) = true := by simp; omega
                  by_cases fp : pres.length + 1 ≤ 16
                  · have g2 : decide ((pres.length : Int) + 1 ≤ 16) = true := by simp; omega
                    go_wp2_with fail
                    go_meet
                    exact ⟨_, rfl, fun _ => ⟨fs, fp⟩, rfl⟩
                  · have g2 : decide ((pres.length : Int) + 1 ≤ 16) = false := by simp; omega
                    go_wp2_with fail
                    go_meet
                    exact ⟨_, rfl, fun h => by simp at h, rfl⟩
                · have g1 : decide ((sigs.length : Int) + 1 ≤ 16) = false := by simp; omega
                  go_wp2_with fail
                  go_meet
                  exact ⟨_, rfl, fun h => by simp at h, rfl⟩
              case rest =>
              obtain ⟨f20, rfl, hf20, hwc⟩ := hcut
              have hwc2 := hwc.symm
              subst hwc2
              have HF20 := Lib.hid hf20
              clear hf20
              go_upto_region 11 with fail
              go_cut [113] from 97 to 113 (fun s113 wx => s113 = .bool false ∧ Hid (GL [] w13 wx))
              case first =>
                have v1 := blk_cell HV13.out
                have v2 := blk_free HV13.out
                have v3 := blk_lt HV13.out
                have v4 := blk_cell HA13.out
                have v5 := blk_free HA13.out
                have v6 := blk_lt HA13.out
                have hall : ∀ s ∈ sigs ++ [more], s.length ≤ 9000000000000000000 := fun s hs => by
                  rcases List.mem_append.1 hs with h | h
                  · exact hst s h
                  · rw [List.mem_singleton] at h; subst h; exact hmore0
                have halp : ∀ s ∈ pres ++ [more], s.length ≤ 9000000000000000000 := fun s hs => by
                  rcases List.mem_append.1 hs with h | h
                  · exact hpt s h
                  · rw [List.mem_singleton] at h; subst h; exact hmore0
                have HCM := Lib.hid (lkOpens (.mk ka ta na ksa) _ _ _ _ (sigs ++ [more]) (pres ++ [more]) msg (after + lt) (age + lt) w13 HX13.out HSM.out HPM.out (by simp; omega) (by simp; omega) hall halp (by omega) (by omega) HG13.out)
                clear hall halp hst hpt
                cases zx with
                | false =>
                  clear HMORE HBOTH HCM
                  go_wp2_with fail
                  go_meet
                  exact ⟨rfl, Lib.hid (gl_refl _ _)⟩
                | true =>
                  cases f20 with
                  | false =>
                    clear HMORE HBOTH HCM
                    go_wp2_with fail
                    go_meet
                    exact ⟨rfl, Lib.hid (gl_refl _ _)⟩
                  | true =>
                    have HM1 := Lib.hid (HMORE.out rfl (HF20.out rfl).1 (HF20.out rfl).2)
                    clear HMORE HBOTH HF20
                    go_wp2_with fail
                    refine HCM.out.mono ?_
                    rintro e wz ⟨rfl, hbz⟩
                    rw [HM1.out]
                    go_wp2_with fail
                    go_meet
                    exact ⟨rfl, Lib.hid (gl_below hbz (gl_refl _ _))⟩
              case rest =>
                obtain ⟨rfl, hgx⟩ := hcut
                clear HSM HPM HV13
                have HA14 := Lib.hid (blk_gl HA13.out hgx.out (by simp))
                have v4 := blk_cell HA14.out
                have v5 := blk_free HA14.out
                have v6 := blk_lt HA14.out
                have HB14 := Lib.hid (blk_gl HB13.out hgx.out (by simp))
                have v7 := blk_cell HB14.out
                have v8 := blk_free HB14.out
                have v9 := blk_lt HB14.out
                have HX14 := Lib.hid (lockIn_gl hgx.out _ _ HX13.out)
                have HY14 := Lib.hid (lockIn_gl hgx.out _ _ HY13.out)
                go_upto_region 13 with fail
                go_cut [21, 22] from 114 to 121 (fun s21 s22 wx => Both13 wc (.mk ka ta na ksa) (.mk kb tb nb ksb) s21 s22 wx)
                case first =>
                  have hgd0 : GL [] wc wc.drew := gl_drew (gl_refl _ _)
                  have hA0 : wc.drew.heap[A]? = some (.cells #[.int .u8 ka, .string (bs ta), .int .i64 na, .slice ada ksa.length ca] 25 (0, 0)) := HA14.out
                  have hB0 : wc.drew.heap[B]? = some (.cells #[.int .u8 kb, .string (bs tb), .int .i64 nb, .slice adb ksb.length cb] 25 (0, 0)) := HB14.out
                  have hLA := lockIn_gl hgd0 _ _ HX14.out
                  have hLB := lockIn_gl hgd0 _ _ HY14.out
                  refine wp_region_J (ds := d13) (J := JSR (S13 wc.drew (.mk ka ta na ksa) (.mk kb tb nb ksb) (.agg #[.int .u8 ka, .string (bs ta), .int .i64 na, .slice ada ksa.length ca]) (.agg #[.int .u8 kb, .string (bs tb), .int .i64 nb, .slice adb ksb.length cb]) #[.int .u8 ka, .string (bs ta), .int .i64 na, .slice ada ksa.length ca, .int .u8 kb, .string (bs tb), .int .i64 nb, .slice adb ksb.length cb]) (R13 (.mk ka ta na ksa) (.mk kb tb nb ksb))) 10 20 (by simp) rfl rfl (distinct_of _ (by decide +kernel)) (fun d hd => Nat.lt_of_lt_of_le (ltB_of (n := 122) d13 (by decide +kernel) d hd) (by simp)) (depB_of (by kernel_rfl)) (by kernel_rfl) ⟨fun i v h => (by cases h), fun i j v u h _ => (by cases h)⟩ ?_ ?_
                  · refine stepsJ_of ?_
                    exact ⟨fun _ => y13_0 (by simp) hA0, fun _ => y13_1 (by simp) hB0, fun _ => y13_2 (by simp) (by simp), fun _ => y13_3 (by simp) hLA hLB, fun _ => y13_4 (by simp) hA0, fun _ => y13_5 (by simp) hB0, fun _ => y13_6 (by simp) (by simp), fun _ => y13_7 (by simp) hLA hLB, fun _ => y13_8, fun _ => y13_9, fun h => by omega, fun h => by omega, trivial⟩
                  · intro vs w14 hl hJ hg14
                    have hl0 : vs.length = 10 := hl
                    clear hl
                    obtain ⟨x0, r0, rfl, hl1⟩ := cons_of hl0
                    clear hl0
                    obtain ⟨x1, r1, rfl, hl2⟩ := cons_of hl1
                    clear hl1
                    obtain ⟨x2, r2, rfl, hl3⟩ := cons_of hl2
                    clear hl2
                    obtain ⟨x3, r3, rfl, hl4⟩ := cons_of hl3
                    clear hl3
                    obtain ⟨x4, r4, rfl, hl5⟩ := cons_of hl4
                    clear hl4
                    obtain ⟨x5, r5, rfl, hl6⟩ := cons_of hl5
                    clear hl5
                    obtain ⟨x6, r6, rfl, hl7⟩ := cons_of hl6
                    clear hl6
                    obtain ⟨x7, r7, rfl, hl8⟩ := cons_of hl7
                    clear hl7
                    obtain ⟨x8, r8, rfl, hl9⟩ := cons_of hl8
                    clear hl8
                    obtain ⟨x9, r9, rfl, hl10⟩ := cons_of hl9
                    clear hl9
                    obtain ⟨⟨ad5, c5, e3⟩, hl5⟩ := (hJ.1 3 x3 rfl).2.2.2.1 rfl
                    obtain ⟨⟨ad6, c6, e7⟩, hl6⟩ := (hJ.1 7 x7 rfl).2.2.2.2.1 rfl
                    obtain ⟨A5, e8, hA5, hz5⟩ := (hJ.1 8 x8 rfl).2.2.2.2.2 (.inl rfl)
                    obtain ⟨A6, e9, hA6, hz6⟩ := (hJ.1 9 x9 rfl).2.2.2.2.2 (.inr rfl)
                    subst e3 e7 e8 e9
                    have p1 := (hJ.2 3 8 _ _ rfl rfl).1 ⟨rfl, .inl rfl⟩ A5 rfl
                    have p2 := (hJ.2 3 9 _ _ rfl rfl).1 ⟨rfl, .inr rfl⟩ A6 rfl
                    have p3 := (hJ.2 7 8 _ _ rfl rfl).2.1 ⟨rfl, .inl rfl⟩ A5 rfl
                    have p4 := (hJ.2 7 9 _ _ rfl rfl).2.1 ⟨rfl, .inr rfl⟩ A6 rfl
                    have hne := (hJ.2 8 9 _ _ rfl rfl).2.2 ⟨rfl, rfl⟩
                    have hne2 : A6 ≠ A5 := fun e => hne (by rw [e])
                    have HP5 := Lib.hid (lockIn_and _ _ p1 p2)
                    have HP6 := Lib.hid (lockIn_and _ _ p3 p4)
                    have HZ5 := Lib.hid hz5
                    have HZ6 := Lib.hid hz6
                    have f5 := blk_cell hz5
                    have g5 := blk_free hz5
                    have l5 := blk_lt hz5
                    clear hJ p1 p2 p3 p4 hl5 hl6 hl10 hne hz5 hz6 hA0 hB0 hLA hLB
                    simp only [d13, setAll, List.setIfInBounds_toArray, List.set_cons_zero, List.set_cons_succ]
                    refine wpOps_run (i := 10) (rest := [11]) rfl rfl (fun K hK => ?_)
                    have HK := Lib.hid hK
                    clear hK
                    go_simp
                    refine HK.out _ _ ?_
                    clear HK K f5 g5 l5
                    have HZ7 := Lib.hid (blk_ne4 (v0 := .int .u8 5) (v1 := .string (bs [])) (v2 := .int .i64 0) (v3 := .slice ad5 2 c5) hne2 HZ6.out)
                    have f6 := blk_cell HZ7.out
                    have g6 := blk_free HZ7.out
                    have l6 := blk_lt HZ7.out
                    refine wpOps_run (i := 11) (rest := []) rfl rfl (fun K hK => ?_)
                    have HK := Lib.hid hK
                    clear hK
                    go_simp
                    refine HK.out _ _ ?_
                    clear HK K f6 g6 l6
                    rw [wpOps]
                    go_wp2_with fail
                    go_meet
                    have hst : GL [A5, A6] w14 ((((((((w14.setCell ⟨A5, 0, none⟩ (.int .u8 5)).setCell ⟨A5, 1, none⟩ (.string (bs []))).setCell ⟨A5, 2, none⟩ (.int .i64 0)).setCell ⟨A5, 3, none⟩ (.slice ad5 2 c5)).setCell ⟨A6, 0, none⟩ (.int .u8 6)).setCell ⟨A6, 1, none⟩ (.string (bs []))).setCell ⟨A6, 2, none⟩ (.int .i64 0)).setCell ⟨A6, 3, none⟩ (.slice ad6 2 c6)) := gl_set4 (.inl (by simp)) (gl_set4 (.inl (by simp)) (gl_refl _ _))
                    refine ⟨A5, A6, ad5, ad6, c5, c6, rfl, rfl, ?_, ?_, ?_, ?_, ?_⟩
                    · exact blk_ne4 (fun e => hne2 e.symm) (blk4 HZ5.out)
                    · exact blk4 HZ7.out
                    · exact lockIn_stay (p := fun b => b ≠ A5 ∧ b ≠ A6) (w := w14) ⟨hst.size, fun b hb hp => hst.block b hb (by simp; omega)⟩ (fun _ _ _ => trivial) _ _ HP5.out
                    · exact lockIn_stay (p := fun b => b ≠ A5 ∧ b ≠ A6) (w := w14) ⟨hst.size, fun b hb hp => hst.block b hb (by simp; omega)⟩ (fun _ _ _ => trivial) _ _ HP6.out
                    · exact gl_set4 (.inr (by simpa using hA6)) (gl_set4 (.inr (by simpa using hA5)) (gl_step hg14 hgd0 (by simp)))
                case rest =>
                  obtain ⟨A5, A6, ad5, ad6, c5, c6, rfl, rfl, h5, h6, hl5, hl6, hgd⟩ := hcut
                  have hgt : GL [] w13 wc := gl_step hgd hgx.out (by simp)
                  have HX15 := Lib.hid (lockIn_gl hgd _ _ HX14.out)
                  have HY15 := Lib.hid (lockIn_gl hgd _ _ HY14.out)
                  have HS15 := Lib.hid (termsAt_gl HS13.out hgt)
                  have HP15 := Lib.hid (termsAt_gl HP13.out hgt)
                  have HG15 := Lib.hid (gok_gl HG13.out hgt (by simp))
                  have HA15 := Lib.hid (blk_gl HA14.out hgd (by simp))
                  have HB15 := Lib.hid (blk_gl HB14.out hgd (by simp))
                  have HWB15 := Lib.hid (blk_gl HWB13.out hgt (by simp))
                  have hg15 : GL [] w wc := gl_step hgt hgw (by simp)
                  have H5 := Lib.hid h5
                  have H6 := Lib.hid h6
                  have HL5 := Lib.hid hl5
                  have HL6 := Lib.hid hl6
                  clear hgd hgt hgx h5 h6 hl5 hl6 v4 v5 v6 v7 v8 v9 HX14 HY14 HX13 HY13 HS13 HP13 HG13 HA14 HB14 HA13 HB13 HWB13 hgw hle13 hsz13 HF20 HMORE
                  have hO5 := fun (W : World) (hgw : GL [] wc W) => lkOpens (bothL 5 (.mk ka ta na ksa) (.mk kb tb nb ksb)) _ _ _ _ sigs pres msg after age W (lockIn_gl hgw _ _ HL5.out) (termsAt_gl HS15.out hgw) (termsAt_gl HP15.out hgw) hsn hpn HST.out HPT.out HRNA.out HRNG.out (gok_gl HG15.out hgw (by simp))
                  have hO6 := fun (W : World) (hgw : GL [] wc W) => lkOpens (bothL 6 (.mk ka ta na ksa) (.mk kb tb nb ksb)) _ _ _ _ sigs pres msg after age W (lockIn_gl hgw _ _ HL6.out) (termsAt_gl HS15.out hgw) (termsAt_gl HP15.out hgw) hsn hpn HST.out HPT.out HRNA.out HRNG.out (gok_gl HG15.out hgw (by simp))
                  have hr5 := fun (W : World) (hgw : GL [] wc W) => lkRight (bothL 5 (.mk ka ta na ksa) (.mk kb tb nb ksb)) _ _ W (lockIn_gl hgw _ _ HL5.out) (gok_gl HG15.out hgw (by simp))
                  have hr6 := fun (W : World) (hgw : GL [] wc W) => lkRight (bothL 6 (.mk ka ta na ksa) (.mk kb tb nb ksb)) _ _ W (lockIn_gl hgw _ _ HL6.out) (gok_gl HG15.out hgw (by simp))
                  have hra := fun (W : World) (hgw : GL [] wc W) => lkRight (.mk ka ta na ksa) _ _ W (lockIn_gl hgw _ _ HX15.out) (gok_gl HG15.out hgw (by simp))
                  have hrb := fun (W : World) (hgw : GL [] wc W) => lkRight (.mk kb tb nb ksb) _ _ W (lockIn_gl hgw _ _ HY15.out) (gok_gl HG15.out hgw (by simp))
                  have hwk := fun (W : World) (hgw : GL [] wc W) => lWorks11 W (gok_gl HG15.out hgw (by simp))
                  have h5q := blk_cell H5.out
                  have h5f := blk_free H5.out
                  have h5l := blk_lt H5.out
                  have h6q := blk_cell H6.out
                  have h6f := blk_free H6.out
                  have h6l := blk_lt H6.out
                  have hgcc : GL [] wc wc := gl_refl _ _
                  have HW := Lib.hid hwk
                  clear hwk
                  rw [← both_same] at hr6
                  cases hr : rightL (bothL 5 (.mk ka ta na ksa) (.mk kb tb nb ksb)) with
                  | false =>
                    rw [hr] at hr5 hr6
                    have HR5 := Lib.hid hr5
                    have HR6 := Lib.hid hr6
                    clear hr hr5 hr6 hra hrb hO5 hO6 HBOTH
                    go_wp2_with fail
                    refine (HR5.out _ hgcc).mono ?_
                    rintro e w16 ⟨rfl, hb16⟩
                    have hg16 : GL [] wc w16 := gl_below hb16 (gl_refl _ _)
                    clear hb16
                    have hud : ∀ b : Bool, ¬ (undef = Value.bool b) := fun b h => by cases h
                    have k5q := blk_cell (blk_gl H5.out hg16 (by simp))
                    have k6q := blk_cell (blk_gl H6.out hg16 (by simp))
                    clear h5q h5f h5l h6q h6f h6l
                    go_upto_region 16 with fail
                    first
                    | (go_region_with ((first
                        | (go_at_call 18; with_reducible refine (HR5.out _ (by (repeat' (first | with_reducible exact gl_refl _ _ | with_reducible assumption | with_reducible refine gl_alloc ?_ _ | with_reducible refine gl_drewN ?_ _ | with_reducible refine gl_drew ?_ | (with_reducible refine gl_setn ?_ ?_ _; · (first | exact Nat.le_refl _ | (simp; done) | (simp; omega) | omega)) | (with_reducible refine gl_seti ?_ ?_ _; · (simp; done)) | with_reducible refine gl_below (by with_reducible assumption) ?_ | with_reducible refine gl_step (by with_reducible assumption) ?_ (by first | (simp; done) | (simp; omega)) | with_reducible refine gl_grown (by with_reducible assumption) ?_ (by first | (simp; done) | (simp; omega)))))).mono ?_; rintro e wk ⟨rfl, hbk⟩; have hgk : GL [] wc wk := gl_below hbk (by (repeat' (first | with_reducible exact gl_refl _ _ | with_reducible assumption | with_reducible refine gl_alloc ?_ _ | with_reducible refine gl_drewN ?_ _ | with_reducible refine gl_drew ?_ | (with_reducible refine gl_setn ?_ ?_ _; · (first | exact Nat.le_refl _ | (simp; done) | (simp; omega) | omega)) | (with_reducible refine gl_seti ?_ ?_ _; · (simp; done)) | with_reducible refine gl_below (by with_reducible assumption) ?_ | with_reducible refine gl_step (by with_reducible assumption) ?_ (by first | (simp; done) | (simp; omega)) | with_reducible refine gl_grown (by with_reducible assumption) ?_ (by first | (simp; done) | (simp; omega))))); clear hbk; have k5q := blk_cell (blk_gl H5.out hgk (by simp)); have k6q := blk_cell (blk_gl H6.out hgk (by simp)))
                        | (go_at_call 18; with_reducible refine (HR6.out _ (by (repeat' (first | with_reducible exact gl_refl _ _ | with_reducible assumption | with_reducible refine gl_alloc ?_ _ | with_reducible refine gl_drewN ?_ _ | with_reducible refine gl_drew ?_ | (with_reducible refine gl_setn ?_ ?_ _; · (first | exact Nat.le_refl _ | (simp; done) | (simp; omega) | omega)) | (with_reducible refine gl_seti ?_ ?_ _; · (simp; done)) | with_reducible refine gl_below (by with_reducible assumption) ?_ | with_reducible refine gl_step (by with_reducible assumption) ?_ (by first | (simp; done) | (simp; omega)) | with_reducible refine gl_grown (by with_reducible assumption) ?_ (by first | (simp; done) | (simp; omega)))))).mono ?_; rintro e wk ⟨rfl, hbk⟩; have hgk : GL [] wc wk := gl_below hbk (by (repeat' (first | with_reducible exact gl_refl _ _ | with_reducible assumption | with_reducible refine gl_alloc ?_ _ | with_reducible refine gl_drewN ?_ _ | with_reducible refine gl_drew ?_ | (with_reducible refine gl_setn ?_ ?_ _; · (first | exact Nat.le_refl _ | (simp; done) | (simp; omega) | omega)) | (with_reducible refine gl_seti ?_ ?_ _; · (simp; done)) | with_reducible refine gl_below (by with_reducible assumption) ?_ | with_reducible refine gl_step (by with_reducible assumption) ?_ (by first | (simp; done) | (simp; omega)) | with_reducible refine gl_grown (by with_reducible assumption) ?_ (by first | (simp; done) | (simp; omega))))); clear hbk; have k5q := blk_cell (blk_gl H5.out hgk (by simp)); have k6q := blk_cell (blk_gl H6.out hgk (by simp)))
                        | (go_at_call 23; refine (HW.out _ (by (repeat' (first | with_reducible exact gl_refl _ _ | with_reducible assumption | with_reducible refine gl_alloc ?_ _ | with_reducible refine gl_drewN ?_ _ | with_reducible refine gl_drew ?_ | (with_reducible refine gl_setn ?_ ?_ _; · (first | exact Nat.le_refl _ | (simp; done) | (simp; omega) | omega)) | (with_reducible refine gl_seti ?_ ?_ _; · (simp; done)) | with_reducible refine gl_below (by with_reducible assumption) ?_ | with_reducible refine gl_step (by with_reducible assumption) ?_ (by first | (simp; done) | (simp; omega)) | with_reducible refine gl_grown (by with_reducible assumption) ?_ (by first | (simp; done) | (simp; omega)))))).mono ?_; rintro e wk ⟨rfl, hbk⟩; have hgk : GL [] wc wk := gl_below hbk (by (repeat' (first | with_reducible exact gl_refl _ _ | with_reducible assumption | with_reducible refine gl_alloc ?_ _ | with_reducible refine gl_drewN ?_ _ | with_reducible refine gl_drew ?_ | (with_reducible refine gl_setn ?_ ?_ _; · (first | exact Nat.le_refl _ | (simp; done) | (simp; omega) | omega)) | (with_reducible refine gl_seti ?_ ?_ _; · (simp; done)) | with_reducible refine gl_below (by with_reducible assumption) ?_ | with_reducible refine gl_step (by with_reducible assumption) ?_ (by first | (simp; done) | (simp; omega)) | with_reducible refine gl_grown (by with_reducible assumption) ?_ (by first | (simp; done) | (simp; omega))))); clear hbk; have k5q := blk_cell (blk_gl H5.out hgk (by simp)); have k6q := blk_cell (blk_gl H6.out hgk (by simp))))))
                    | fail
                    all_goals
                      go_wp2
                      go_ret
                      exact ⟨rfl, gl_to_below (gl_step hgk hg15 (by simp))⟩
                  | true =>
                    obtain ⟨ho5, ho6⟩ := HBOTH.out hr
                    obtain ⟨rta, rtb⟩ := both_parts (.inl rfl) hr
                    rw [hr] at hr5 hr6
                    rw [rta] at hra
                    rw [rtb] at hrb
                    rw [ho5] at hO5
                    rw [ho6] at hO6
                    clear HBOTH hr ho5 ho6 rta rtb
                    have HR5 := Lib.hid hr5
                    have HR6 := Lib.hid hr6
                    have HRA := Lib.hid hra
                    have HRB := Lib.hid hrb
                    cases zx <;> cases zy
                    all_goals
                      have HO5 := Lib.hid hO5
                      have HO6 := Lib.hid hO6
                      clear hr5 hr6 hra hrb hO5 hO6
                      go_wp2_with fail
                      refine (HR5.out _ hgcc).mono ?_
                      rintro e w16 ⟨rfl, hb16⟩
                      have hg16 : GL [] wc w16 := gl_below hb16 (gl_refl _ _)
                      have k5q := blk_cell (blk_gl H5.out hg16 (by simp))
                      have k5f := blk_free (blk_gl H5.out hg16 (by simp))
                      have k5l := blk_lt (blk_gl H5.out hg16 (by simp))
                      have kwq := blk_cell (blk_gl HWB15.out hg16 (by simp))
                      have kwf := blk_free (blk_gl HWB15.out hg16 (by simp))
                      have kwl := blk_lt (blk_gl HWB15.out hg16 (by simp))
                      clear hb16 h5q h5f h5l h6q h6f h6l
                      go_wp2_with fail
                      refine (HO5.out _ hg16).mono ?_
                      rintro e w17 ⟨rfl, hb17⟩
                      have hg17 : GL [] wc w17 := gl_below hb17 hg16
                      have k6q := blk_cell (blk_gl H6.out hg17 (by simp))
                      have k6f := blk_free (blk_gl H6.out hg17 (by simp))
                      have k6l := blk_lt (blk_gl H6.out hg17 (by simp))
                      have kwq := blk_cell (blk_gl HWB15.out hg17 (by simp))
                      have kwf := blk_free (blk_gl HWB15.out hg17 (by simp))
                      have kwl := blk_lt (blk_gl HWB15.out hg17 (by simp))
                      clear hb17 k5q k5f k5l
                      go_wp2_with fail
                      refine (HO6.out _ hg17).mono ?_
                      rintro e w18 ⟨rfl, hb18⟩
                      have hg18 : GL [] wc w18 := gl_below hb18 hg17
                      clear hb18 k6q k6f k6l
                      have hud : ∀ b : Bool, ¬ (undef = Value.bool b) := fun b h => by cases h
                      have HMK : Hid (∀ w' : World, GL [] wc w' → w'.cell? ⟨A5, 0, none⟩ = some (.int .u8 5) ∧ w'.cell? ⟨A5, 1, none⟩ = some (.string (bs [])) ∧ w'.cell? ⟨A5, 2, none⟩ = some (.int .i64 0) ∧ w'.cell? ⟨A5, 3, none⟩ = some (.slice ad5 2 c5) ∧ w'.cell? ⟨A6, 0, none⟩ = some (.int .u8 6) ∧ w'.cell? ⟨A6, 1, none⟩ = some (.string (bs [])) ∧ w'.cell? ⟨A6, 2, none⟩ = some (.int .i64 0) ∧ w'.cell? ⟨A6, 3, none⟩ = some (.slice ad6 2 c6) ∧ w'.cell? ⟨A, 0, none⟩ = some (.int .u8 ka) ∧ w'.cell? ⟨A, 1, none⟩ = some (.string (bs ta)) ∧ w'.cell? ⟨A, 2, none⟩ = some (.int .i64 na) ∧ w'.cell? ⟨A, 3, none⟩ = some (.slice ada ksa.length ca) ∧ w'.cell? ⟨B, 0, none⟩ = some (.int .u8 kb) ∧ w'.cell? ⟨B, 1, none⟩ = some (.string (bs tb)) ∧ w'.cell? ⟨B, 2, none⟩ = some (.int .i64 nb) ∧ w'.cell? ⟨B, 3, none⟩ = some (.slice adb ksb.length cb) ∧ GL [] wc w') := by
                        show ∀ w' : World, GL [] wc w' → _
                        intro w' hw'
                        have z5 := blk_cell (blk_gl H5.out hw' (by simp))
                        have z6 := blk_cell (blk_gl H6.out hw' (by simp))
                        have za := blk_cell (blk_gl HA15.out hw' (by simp))
                        have zb := blk_cell (blk_gl HB15.out hw' (by simp))
                        exact ⟨z5 0, z5 1, z5 2, z5 3, z6 0, z6 1, z6 2, z6 3, za 0, za 1, za 2, za 3, zb 0, zb 1, zb 2, zb 3, hw'⟩
                      go_upto_region 16 with fail
                      first
                      | go_region_held3 (fun w' => w'.cell? ⟨A5, 0, none⟩ = some (.int .u8 5) ∧ w'.cell? ⟨A5, 1, none⟩ = some (.string (bs [])) ∧ w'.cell? ⟨A5, 2, none⟩ = some (.int .i64 0) ∧ w'.cell? ⟨A5, 3, none⟩ = some (.slice ad5 2 c5) ∧ w'.cell? ⟨A6, 0, none⟩ = some (.int .u8 6) ∧ w'.cell? ⟨A6, 1, none⟩ = some (.string (bs [])) ∧ w'.cell? ⟨A6, 2, none⟩ = some (.int .i64 0) ∧ w'.cell? ⟨A6, 3, none⟩ = some (.slice ad6 2 c6) ∧ w'.cell? ⟨A, 0, none⟩ = some (.int .u8 ka) ∧ w'.cell? ⟨A, 1, none⟩ = some (.string (bs ta)) ∧ w'.cell? ⟨A, 2, none⟩ = some (.int .i64 na) ∧ w'.cell? ⟨A, 3, none⟩ = some (.slice ada ksa.length ca) ∧ w'.cell? ⟨B, 0, none⟩ = some (.int .u8 kb) ∧ w'.cell? ⟨B, 1, none⟩ = some (.string (bs tb)) ∧ w'.cell? ⟨B, 2, none⟩ = some (.int .i64 nb) ∧ w'.cell? ⟨B, 3, none⟩ = some (.slice adb ksb.length cb) ∧ GL [] wc w')
                        (first
                          | (refine HMK.out _ ?_; (repeat' (first | with_reducible exact gl_refl _ _ | with_reducible assumption | with_reducible refine gl_alloc ?_ _ | with_reducible refine gl_drewN ?_ _ | with_reducible refine gl_drew ?_ | (with_reducible refine gl_setn ?_ ?_ _; · (first | exact Nat.le_refl _ | (simp; done) | (simp; omega) | omega)) | (with_reducible refine gl_seti ?_ ?_ _; · (simp; done)) | with_reducible refine gl_below (by with_reducible assumption) ?_ | with_reducible refine gl_step (by with_reducible assumption) ?_ (by first | (simp; done) | (simp; omega)) | with_reducible refine gl_grown (by with_reducible assumption) ?_ (by first | (simp; done) | (simp; omega)))); done)
                          | (go_split_ands; refine HMK.out _ ?_; (repeat' (first | with_reducible exact gl_refl _ _ | with_reducible assumption | with_reducible refine gl_alloc ?_ _ | with_reducible refine gl_drewN ?_ _ | with_reducible refine gl_drew ?_ | (with_reducible refine gl_setn ?_ ?_ _; · (first | exact Nat.le_refl _ | (simp; done) | (simp; omega) | omega)) | (with_reducible refine gl_seti ?_ ?_ _; · (simp; done)) | with_reducible refine gl_below (by with_reducible assumption) ?_ | with_reducible refine gl_step (by with_reducible assumption) ?_ (by first | (simp; done) | (simp; omega)) | with_reducible refine gl_grown (by with_reducible assumption) ?_ (by first | (simp; done) | (simp; omega)))); done))
                        ((first
                          | (go_at_call 18; go_split_ands; with_reducible refine (HR5.out _ (by assumption)).mono ?_; rintro e wk ⟨rfl, hbk⟩)
                          | (go_at_call 18; go_split_ands; with_reducible refine (HR6.out _ (by assumption)).mono ?_; rintro e wk ⟨rfl, hbk⟩)
                          | (go_at_call 18; go_split_ands; with_reducible refine (HRA.out _ (by assumption)).mono ?_; rintro e wk ⟨rfl, hbk⟩)
                          | (go_at_call 18; go_split_ands; with_reducible refine (HRB.out _ (by assumption)).mono ?_; rintro e wk ⟨rfl, hbk⟩)
                          | (go_at_call 23; go_split_ands; refine (HW.out _ (by assumption)).mono ?_; rintro e wk ⟨rfl, hbk⟩)))
                      | fail
                      go_wp2
                      go_ret
                      exact ⟨rfl, gl_to_below (gl_step (gl_below hbk (by assumption)) hg15 (by simp))⟩
            · skip
              have fh6 : decide (1099511627776 < age) = true := by simp; omega
              go_wp2_with fail
              go_ret
              exact ⟨rfl, gl_to_below hg4⟩
          · skip
            have fh5 : decide (1099511627776 < after) = true := by simp; omega
            go_wp2_with fail
            go_ret
            exact ⟨rfl, gl_to_below hg4⟩
        · skip
          have fh4 : decide (1000 < (more.length : Int)) = true := by simp; omega
          go_wp2_with fail
          go_ret
          exact ⟨rfl, gl_to_below hg4⟩
    · skip
      have fh2 : decide (100 < z2) = true := by simp; omega
      go_wp2_with fail
      go_ret
      exact ⟨rfl, gl_to_below hg3⟩
  · skip
    have fh1 : decide (100 < z1) = true := by simp; omega
    go_wp2_with fail
    go_ret
    exact ⟨rfl, gl_to_below hg2⟩

end Go.Proofs.YtfmckibiblhakaaGreatDoor
