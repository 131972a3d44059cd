/- The reference's locks: written, their keys; two lists of terms. -/
import Derived.Test.YtfmckibiblhakaaGreatDoorLRefA
import Derived.Test.YtfmckibiblhakaaGreatDoorLockF
import Derived.Test.YtfmckibiblhakaaGreatDoorLockK
import Derived.BigQuiet
set_option linter.unusedSimpArgs false
set_option linter.unusedVariables false
namespace Go.Proofs.YtfmckibiblhakaaGreatDoor
open Go.RowKit

/-- Nothing is appended. -/
theorem run_append_none {P : Program} (w : World) (base : Nat) (t ty e : TypeId) (i : TypeInfo) (size c : Nat) (ht : P.underlying t = some (.slice e)) (hi : P.info? e = some i)
    (v : Value) (n : Nat) (xs : List Value) (hown : w.ownsRow base e size v n xs) :
    (Builtin.append_ #[t, t] ty #[v, .slice none 0 c]).run P w = .ok v w := by
  rcases hown.2 with ⟨rfl, rfl⟩ | ⟨g, cap, cur, rfl, hbg, hg, hnc, hcm, hcs, htake⟩
  · simp [Builtin.append_, run_underlying ht, sizeOf, typeInfo, hi, Builtin.lenOf, Builtin.firstCells, loadCells, loadCellsFrom]
  · simp [Builtin.append_, run_underlying ht, sizeOf, typeInfo, hi, Builtin.lenOf, Builtin.firstCells, loadCells, loadCellsFrom, storeCells, hnc]
theorem wpList_append_none {P : Program} {ops : Array Oper} {rest : List Oper} {o : Oper} {a : Act} {w : World} {Q : Exit → Act → World → Prop} (hgd : o.guard = none) (s x : Operand) (t : TypeId)
    (ho : o.op = .call { callee := .builtin .append, args := #[s, x], argTypes := #[t, t] })
    (base : Nat) (e : TypeId) (i : TypeInfo) (size : Nat) (ht : P.underlying t = some (.slice e)) (hi : P.info? e = some i)
    (v : Value) (n : Nat) (xs : List Value) (hs : a.eval s = v) (hown : w.ownsRow base e size v n xs) (c : Nat) (hx : a.eval x = .slice none 0 c)
    (h : wpList P ops Q rest (a.put o.dst v) w) : wpList P ops Q (o :: rest) a w :=
  wpList_plain hgd fun _ hK => by
    have hr := run_append_none (P := P) w base t o.type e i size c ht hi v n xs hown
    unfold Oper.wp execOp
    simp only [ho, resolve, invoke, builtin, Sem.run_bind, Sem.run_pure, Result.andThen_ok, List.map_toArray, List.map_cons, List.map_nil, hs, hx, hr]
    exact hK _ _ h
/-- A row of one's own is appended. -/
theorem wpList_append_row {P : Program} {ops : Array Oper} {rest : List Oper} {o : Oper} {a : Act} {w : World} {Q : Exit → Act → World → Prop} (hgd : o.guard = none) (s x : Operand) (t : TypeId)
    (ho : o.op = .call { callee := .builtin .append, args := #[s, x], argTypes := #[t, t] })
    (base : Nat) (e : TypeId) (i : TypeInfo) (z : Value) (size bytes : Nat) (ht : P.underlying t = some (.slice e)) (hi : P.info? e = some i) (hz : i.zero = some z)
    (hsize : i.size = size) (hby : i.bytes = bytes) (hzs : z.cells.size = size) (hsz : 0 < size)
    (v : Value) (n : Nat) (xs : List Value) (hs : a.eval s = v) (hown : w.ownsRow base e size v n xs)
    (b2 : Nat) (u : Value) (m : Nat) (news : List Value) (hx : a.eval x = u) (hown2 : w.ownsRow b2 e size u m news) (h1 : ∀ u ∈ news, u.oneCell' = true)
    (h63 : n + m ≤ maxLen) (hbytes : (n + m) * bytes ≤ 140737488355328) (hbase : base ≤ w.heap.size)
    (h : ∀ v' w', w'.ownsRow base e size v' (n + m) (xs ++ news) → w.grownBy w' v.ownBlock → wpList P ops Q rest (a.put o.dst v') w') : wpList P ops Q (o :: rest) a w := by
  rcases hown2.2 with ⟨hu, hm⟩ | ⟨g, cap, cur, hu, hbg, hg, hnc, hcm, hcs, htake⟩
  · subst hm
    have hn : news = [] := List.eq_nil_of_length_eq_zero (by have := hown2.1; simpa using this)
    subst hn
    refine wpList_append_none hgd s x t ho base e i size ht hi v n xs hs hown 0 (hx.trans hu) (h v w ?_ ⟨rfl, rfl, rfl, Nat.le_refl _, fun _ _ _ => rfl⟩)
    rw [List.append_nil]; exact hown
  · exact wpList_append_own w hgd s x t ho base e i z size bytes ht hi hz hsize hby hzs hsz v n xs hs hown ⟨g, 0, none⟩ m cap news (hx.trans hu) hown2.1 (fun j y hj => hown2.cells (by rw [hu]; rfl) j y hj) h1 h63 hbytes hbase (fun v' w' a1 a2 _ => h v' w' a1 a2)

set_option maxRecDepth 100000 in
set_option maxHeartbeats 2000000 in
theorem rlDigits0 (n : Nat) : ∀ (x : Int) (_ : x = n) (_ : n ≤ 9000000000000000000) (w : World),
    Calls Tryz.prog 103 #[.int .i64 x] w fun e w' => e = .returned (.string (bs (Lib.decDigits n))) ∧ Below w.heap.size w w' := by
  induction n using Nat.strongRecOn with
  | ind n ih =>
    intro x hx hn w
    subst hx
    have kc := fun (w : World) => run_conv1 (P := Tryz.prog) w 100 9 5 (48 + (n : Int) % 10) Tryz.underlying100 Tryz.underlying5 Tryz.underlying9 (by omega) (by omega)
    have H : Hid (Lib.decDigits n = if n < 10 then [UInt8.ofNat (48 + n)] else Lib.decDigits (n / 10) ++ [UInt8.ofNat (48 + n % 10)]) := by
      show Lib.decDigits n = _
      rw [Lib.decDigits]
      split <;> rfl
    by_cases h : n ≤ 9
    · clear ih
      go_enter Tryz.func103, Tryz.ntmps103
      go_wp2_with fail
      go_ret
      refine ⟨?_, ?_⟩
      · rw [H.out, if_pos (by omega)]
        have : n % 10 = n := by omega
        simp [this]
      · (repeat' (first | with_reducible exact Below.refl _ _ | with_reducible assumption | with_reducible refine below_alloc ?_ ?_ _ | with_reducible refine Below.setCell ?_ ?_ _ | with_reducible refine Below.drew ?_ | with_reducible refine below_drewN ?_ _ | with_reducible refine below_step (by assumption) ?_ ?_ | (with_reducible refine Below.trans ?_ (Below.mono (by assumption) ?_)) | exact Nat.le_refl _ | (simp; done) | (simp; omega) | omega))
    · have hlen : (Lib.decDigits (n / 10)).length ≤ 20 := dec_len20 _ (by omega)
      go_enter Tryz.func103, Tryz.ntmps103
      go_wp2_with (go_at_call 103; refine (ih (n / 10) (by omega) _ (by omega) (by omega) _).mono ?_; rintro e w1 ⟨rfl, hb⟩)
      go_ret
      refine ⟨?_, ?_⟩
      · rw [H.out, if_neg (by omega)]; simp
      · refine Below.trans ?_ (hb.mono (by simp))
        (repeat' (first | with_reducible exact Below.refl _ _ | with_reducible assumption | with_reducible refine below_alloc ?_ ?_ _ | with_reducible refine Below.setCell ?_ ?_ _ | with_reducible refine Below.drew ?_ | with_reducible refine below_drewN ?_ _ | with_reducible refine below_step (by assumption) ?_ ?_ | (with_reducible refine Below.trans ?_ (Below.mono (by assumption) ?_)) | exact Nat.le_refl _ | (simp; done) | (simp; omega) | omega))
theorem rlDigits (x : Int) (h0 : 0 ≤ x) (h1 : x ≤ 9000000000000000000) (w : World) :
    Calls Tryz.prog 103 #[.int .i64 x] w fun e w' => e = .returned (.string (bs (Lib.decDigits x.toNat))) ∧ Below w.heap.size w w' :=
  rlDigits0 x.toNat x (by omega) (by omega) w

set_option maxRecDepth 100000 in
set_option maxHeartbeats 2000000 in
theorem rlText1 (t : List UInt8) (ht : t.length ≤ 20000) (n : Int) (ad : Option Addr) (m c : Nat) (w : World) :
    Calls Tryz.prog 73 #[.agg #[.int .u8 1, .string (bs t), .int .i64 n, .slice ad m c]] w fun e w' => e = .returned (.string (bs (115 :: t))) ∧ Below w.heap.size w w' := by
  have hl : (115 :: t).length = t.length + 1 := rfl
  go_enter Tryz.func73, Tryz.ntmps73
  go_wp2
  go_ret
  exact ⟨by first | rfl | (simp; done), by (repeat' (first | with_reducible exact Below.refl _ _ | with_reducible assumption | with_reducible refine below_alloc ?_ ?_ _ | with_reducible refine Below.setCell ?_ ?_ _ | with_reducible refine Below.drew ?_ | with_reducible refine below_drewN ?_ _ | with_reducible refine below_step (by assumption) ?_ ?_ | (with_reducible refine Below.trans ?_ (Below.mono (by assumption) ?_)) | exact Nat.le_refl _ | (simp; done) | (simp; omega) | omega))⟩

set_option maxRecDepth 100000 in
set_option maxHeartbeats 2000000 in
theorem rlText2 (t : List UInt8) (ht : t.length ≤ 20000) (n : Int) (ad : Option Addr) (m c : Nat) (w : World) :
    Calls Tryz.prog 73 #[.agg #[.int .u8 2, .string (bs t), .int .i64 n, .slice ad m c]] w fun e w' => e = .returned (.string (bs (112 :: t))) ∧ Below w.heap.size w w' := by
  have hl : (112 :: t).length = t.length + 1 := rfl
  go_enter Tryz.func73, Tryz.ntmps73
  go_wp2
  go_ret
  exact ⟨by first | rfl | (simp; done), by (repeat' (first | with_reducible exact Below.refl _ _ | with_reducible assumption | with_reducible refine below_alloc ?_ ?_ _ | with_reducible refine Below.setCell ?_ ?_ _ | with_reducible refine Below.drew ?_ | with_reducible refine below_drewN ?_ _ | with_reducible refine below_step (by assumption) ?_ ?_ | (with_reducible refine Below.trans ?_ (Below.mono (by assumption) ?_)) | exact Nat.le_refl _ | (simp; done) | (simp; omega) | omega))⟩

set_option maxRecDepth 100000 in
set_option maxHeartbeats 2000000 in
theorem rlText3 (t : List UInt8) (n : Int) (h0 : 0 ≤ n) (h1 : n < 1073741824) (ad : Option Addr) (m c : Nat) (w : World) :
    Calls Tryz.prog 73 #[.agg #[.int .u8 3, .string (bs t), .int .i64 n, .slice ad m c]] w fun e w' => e = .returned (.string (bs (97 :: (Lib.decDigits n.toNat ++ [59])))) ∧ Below w.heap.size w w' := by
  have hd := rlDigits n h0 (by omega)
  have hlen : (Lib.decDigits n.toNat).length ≤ 20 := dec_len20 _ (by omega)
  generalize Lib.decDigits n.toNat = dg at *
  have HD := Lib.hid hd
  clear hd
  go_enter Tryz.func73, Tryz.ntmps73
  go_wp2_with fail
  refine (HD.out _).mono ?_
  rintro e w1 ⟨rfl, hb1⟩
  go_wp2
  go_ret
  exact ⟨by first | rfl | (simp; done), by (repeat' (first | with_reducible exact Below.refl _ _ | with_reducible assumption | with_reducible refine below_alloc ?_ ?_ _ | with_reducible refine Below.setCell ?_ ?_ _ | with_reducible refine Below.drew ?_ | with_reducible refine below_drewN ?_ _ | with_reducible refine below_step (by assumption) ?_ ?_ | (with_reducible refine Below.trans ?_ (Below.mono (by assumption) ?_)) | exact Nat.le_refl _ | (simp; done) | (simp; omega) | omega))⟩

set_option maxRecDepth 100000 in
set_option maxHeartbeats 2000000 in
theorem rlText4 (t : List UInt8) (n : Int) (h0 : 0 ≤ n) (h1 : n < 1073741824) (ad : Option Addr) (m c : Nat) (w : World) :
    Calls Tryz.prog 73 #[.agg #[.int .u8 4, .string (bs t), .int .i64 n, .slice ad m c]] w fun e w' => e = .returned (.string (bs (111 :: (Lib.decDigits n.toNat ++ [59])))) ∧ Below w.heap.size w w' := by
  have hd := rlDigits n h0 (by omega)
  have hlen : (Lib.decDigits n.toNat).length ≤ 20 := dec_len20 _ (by omega)
  generalize Lib.decDigits n.toNat = dg at *
  have HD := Lib.hid hd
  clear hd
  go_enter Tryz.func73, Tryz.ntmps73
  go_wp2_with fail
  refine (HD.out _).mono ?_
  rintro e w1 ⟨rfl, hb1⟩
  go_wp2
  go_ret
  exact ⟨by first | rfl | (simp; done), by (repeat' (first | with_reducible exact Below.refl _ _ | with_reducible assumption | with_reducible refine below_alloc ?_ ?_ _ | with_reducible refine Below.setCell ?_ ?_ _ | with_reducible refine Below.drew ?_ | with_reducible refine below_drewN ?_ _ | with_reducible refine below_step (by assumption) ?_ ?_ | (with_reducible refine Below.trans ?_ (Below.mono (by assumption) ?_)) | exact Nat.le_refl _ | (simp; done) | (simp; omega) | omega))⟩

def TextIH (N : Nat) : Prop := ∀ (x : LT) (q : Nat → Prop) (v : Value) (w : World), countL x ≤ N → N ≤ 1000 → rightsL x = true → LockIn q w x v →
    Calls Tryz.prog 73 #[v] w fun e w' => e = .returned (.string (bs (lockT x))) ∧ Below w.heap.size w w'

set_option maxRecDepth 100000 in
set_option maxHeartbeats 2000000 in
theorem rlText5 (N : Nat) (ih : TextIH N) (hN : N ≤ 1000) (t : List UInt8) (n : Int) (kids : List LT) (ad : Option Addr) (c : Nat) (q : Nat → Prop) (hm : kids.length ≤ 8) (hcN : countRow kids ≤ N) (hrr : rightsRow kids = true) (w : World)
    (hd : kids = [] ∨ ∃ b o, ad = some ⟨b, o, none⟩ ∧ b < w.heap.size ∧ q b ∧ RowIn q w kids b o) :
    Calls Tryz.prog 73 #[.agg #[.int .u8 5, .string (bs t), .int .i64 n, .slice ad kids.length c]] w fun e w' => e = .returned (.string (bs (38 :: (Lib.decDigits kids.length ++ 58 :: lockRow kids)))) ∧ Below w.heap.size w w' := by
  have HD := Lib.hid hd
  have IH := Lib.hid ih
  have HR := Lib.hid hrr
  have hdc := rlDigits kids.length (by omega) (by omega)
  rw [Int.toNat_natCast] at hdc
  have hdl : (Lib.decDigits kids.length).length ≤ 20 := dec_len20 _ (by omega)
  generalize Lib.decDigits kids.length = dg at *
  have HDC := Lib.hid hdc
  clear hd ih hrr hdc
  go_enter Tryz.func73, Tryz.ntmps73
  go_wp2_with fail
  refine (HDC.out _).mono ?_
  rintro e w1 ⟨rfl, hb1⟩
  have HB1 := Lib.hid (blk_below (blk_new w (.cells #[.int .u8 5, .string (bs t), .int .i64 n, .slice ad kids.length c] 25)) hb1 (by simp))
  have hg1 : GL [] w w1 := gl_below hb1 (gl_alloc (gl_refl _ _) _)
  have fz1 := blk_cell HB1.out
  have fz2 := blk_free HB1.out
  clear hb1
  go_wp2
  clear fz1 fz2
  go_loopw [3, 4] (fun sv iv wr => ∃ (j : Nat) (acc : List UInt8), j ≤ kids.length ∧ iv = .int .i64 j ∧ sv = .string (bs acc) ∧ acc.length ≤ 22 + 20000000 * j ∧ Hid (acc = 38 :: (dg ++ 58 :: lockRow (kids.take j))) ∧ Hid (wr.heap[w.heap.size]? = some (.cells #[.int .u8 5, .string (bs t), .int .i64 n, .slice ad kids.length c] 25 (0, 0))) ∧ Hid (GL [] w wr)) (fun _ iv _ => kids.length - (intOf iv).toNat)
  case atStart => exact ⟨0, _, by omega, rfl, rfl, by first | (simp; done) | (simp; omega), Lib.hid (by simp [lockRow_nil]), HB1, Lib.hid hg1⟩
  case round =>
    obtain ⟨j, acc, hj, rfl, rfl, hal, hacc, H1, hgr⟩ := hrel
    have f1 := blk_cell H1.out
    have e1 := blk_free H1.out
    by_cases hlt : j < kids.length
    · have i3 : (j : Int) < kids.length := by omega
      rcases HD.out with h0' | ⟨b, o, rfl, hb, hqb, hrow⟩
      · subst h0'; simp at hlt
      obtain ⟨u0, u1, u2, u3, hx, c0, c1, c2', c3⟩ := rowIn_get kids b o j kids[j] (rowIn_gl hgr.out kids b o hb hqb hrow) (List.getElem?_eq_getElem hlt)
      obtain ⟨ku, nu, tu, au, mu, cu, rfl, rfl, rfl, rfl⟩ := lockIn_cells hx
      have hcx : countL kids[j] ≤ N := by have := countL_mem kids kids[j] (List.getElem_mem hlt); omega
      have hrx := rights_mem kids kids[j] HR.out (List.getElem_mem hlt)
      have hcall := fun (W : World) (hg : GL [] wr W) => IH.out kids[j] q _ W hcx hN hrx (lockIn_gl hg _ _ hx)
      have hll := lockT_len kids[j] hrx
      have htk := lockRow_take kids j hlt
      generalize lockT kids[j] = lx at *
      have hll2 : lx.length ≤ 20000000 := by omega
      have HTK := Lib.hid htk
      have HC := Lib.hid hcall
      have hal2 : acc.length ≤ 200000000 := by omega
      clear hcall hx hrow hcx hrx htk HD hll
      go_wp2_with fail
      refine (HC.out _ (gl_refl _ _)).mono ?_
      rintro e w2 ⟨rfl, hb2⟩
      go_wp2_with fail
      go_roundw
      case rel => exact ⟨j + 1, acc ++ lx, by omega, by go_num, by first | rfl | (simp; done), by (rw [List.length_append]; omega), Lib.hid (by rw [HTK.out, hacc.out]; simp), Lib.hid (blk_below H1.out hb2 (blk_lt H1.out)), Lib.hid (gl_below hb2 hgr.out)⟩
      case measure => simp [intOf]; omega
    · obtain rfl : j = kids.length := by omega
      have i4 : decide ((kids.length : Int) < kids.length) = false := by simp
      have hz := hacc.out
      rw [List.take_length] at hz
      have HZ := Lib.hid hz
      clear hz hacc
      go_wp2
      go_ret
      exact ⟨by rw [HZ.out]; rfl, gl_to_below hgr.out⟩

set_option maxRecDepth 100000 in
set_option maxHeartbeats 2000000 in
theorem rlText6 (N : Nat) (ih : TextIH N) (hN : N ≤ 1000) (t : List UInt8) (n : Int) (kids : List LT) (ad : Option Addr) (c : Nat) (q : Nat → Prop) (hm : kids.length ≤ 8) (hcN : countRow kids ≤ N) (hrr : rightsRow kids = true) (w : World)
    (hd : kids = [] ∨ ∃ b o, ad = some ⟨b, o, none⟩ ∧ b < w.heap.size ∧ q b ∧ RowIn q w kids b o) :
    Calls Tryz.prog 73 #[.agg #[.int .u8 6, .string (bs t), .int .i64 n, .slice ad kids.length c]] w fun e w' => e = .returned (.string (bs (124 :: (Lib.decDigits kids.length ++ 58 :: lockRow kids)))) ∧ Below w.heap.size w w' := by
  have HD := Lib.hid hd
  have IH := Lib.hid ih
  have HR := Lib.hid hrr
  have hdc := rlDigits kids.length (by omega) (by omega)
  rw [Int.toNat_natCast] at hdc
  have hdl : (Lib.decDigits kids.length).length ≤ 20 := dec_len20 _ (by omega)
  generalize Lib.decDigits kids.length = dg at *
  have HDC := Lib.hid hdc
  clear hd ih hrr hdc
  go_enter Tryz.func73, Tryz.ntmps73
  go_wp2_with fail
  refine (HDC.out _).mono ?_
  rintro e w1 ⟨rfl, hb1⟩
  have HB1 := Lib.hid (blk_below (blk_new w (.cells #[.int .u8 6, .string (bs t), .int .i64 n, .slice ad kids.length c] 25)) hb1 (by simp))
  have hg1 : GL [] w w1 := gl_below hb1 (gl_alloc (gl_refl _ _) _)
  have fz1 := blk_cell HB1.out
  have fz2 := blk_free HB1.out
  clear hb1
  go_wp2
  clear fz1 fz2
  go_loopw [3, 4] (fun sv iv wr => ∃ (j : Nat) (acc : List UInt8), j ≤ kids.length ∧ iv = .int .i64 j ∧ sv = .string (bs acc) ∧ acc.length ≤ 22 + 20000000 * j ∧ Hid (acc = 124 :: (dg ++ 58 :: lockRow (kids.take j))) ∧ Hid (wr.heap[w.heap.size]? = some (.cells #[.int .u8 6, .string (bs t), .int .i64 n, .slice ad kids.length c] 25 (0, 0))) ∧ Hid (GL [] w wr)) (fun _ iv _ => kids.length - (intOf iv).toNat)
  case atStart => exact ⟨0, _, by omega, rfl, rfl, by first | (simp; done) | (simp; omega), Lib.hid (by simp [lockRow_nil]), HB1, Lib.hid hg1⟩
  case round =>
    obtain ⟨j, acc, hj, rfl, rfl, hal, hacc, H1, hgr⟩ := hrel
    have f1 := blk_cell H1.out
    have e1 := blk_free H1.out
    by_cases hlt : j < kids.length
    · have i3 : (j : Int) < kids.length := by omega
      rcases HD.out with h0' | ⟨b, o, rfl, hb, hqb, hrow⟩
      · subst h0'; simp at hlt
      obtain ⟨u0, u1, u2, u3, hx, c0, c1, c2', c3⟩ := rowIn_get kids b o j kids[j] (rowIn_gl hgr.out kids b o hb hqb hrow) (List.getElem?_eq_getElem hlt)
      obtain ⟨ku, nu, tu, au, mu, cu, rfl, rfl, rfl, rfl⟩ := lockIn_cells hx
      have hcx : countL kids[j] ≤ N := by have := countL_mem kids kids[j] (List.getElem_mem hlt); omega
      have hrx := rights_mem kids kids[j] HR.out (List.getElem_mem hlt)
      have hcall := fun (W : World) (hg : GL [] wr W) => IH.out kids[j] q _ W hcx hN hrx (lockIn_gl hg _ _ hx)
      have hll := lockT_len kids[j] hrx
      have htk := lockRow_take kids j hlt
      generalize lockT kids[j] = lx at *
      have hll2 : lx.length ≤ 20000000 := by omega
      have HTK := Lib.hid htk
      have HC := Lib.hid hcall
      have hal2 : acc.length ≤ 200000000 := by omega
      clear hcall hx hrow hcx hrx htk HD hll
      go_wp2_with fail
      refine (HC.out _ (gl_refl _ _)).mono ?_
      rintro e w2 ⟨rfl, hb2⟩
      go_wp2_with fail
      go_roundw
      case rel => exact ⟨j + 1, acc ++ lx, by omega, by go_num, by first | rfl | (simp; done), by (rw [List.length_append]; omega), Lib.hid (by rw [HTK.out, hacc.out]; simp), Lib.hid (blk_below H1.out hb2 (blk_lt H1.out)), Lib.hid (gl_below hb2 hgr.out)⟩
      case measure => simp [intOf]; omega
    · obtain rfl : j = kids.length := by omega
      have i4 : decide ((kids.length : Int) < kids.length) = false := by simp
      have hz := hacc.out
      rw [List.take_length] at hz
      have HZ := Lib.hid hz
      clear hz hacc
      go_wp2
      go_ret
      exact ⟨by rw [HZ.out]; rfl, gl_to_below hgr.out⟩

theorem rlTextN : ∀ N, TextIH N
  | 0 => fun x q v w hN _ _ _ => by have := count_pos x; omega
  | N + 1 => fun x q v w hN hK hr hL => by
    obtain ⟨k, t, n, kids⟩ := x
    obtain ⟨ad, c, rfl, _, _, _, _, hd⟩ := lockIn_open hL
    rw [countL] at hN
    rw [rightsL, Bool.and_eq_true] at hr
    obtain ⟨hb, hrr⟩ := hr
    unfold bareR at hb
    rw [lockT]
    by_cases h1 : k = 1
    · subst h1
      simp only [if_true, Bool.and_eq_true, decide_eq_true_eq] at hb
      have hl : t.length ≤ 20000 := by have h := hb.2; unfold pubB at h; rw [Bool.and_eq_true] at h; have := (right_len h.1).2; omega
      simpa [kindChar] using rlText1 t hl n ad kids.length c w
    by_cases h2 : k = 2
    · subst h2
      simp at hb
      have hl : t.length ≤ 20000 := by have h := hb.2; unfold hashB at h; rw [Bool.and_eq_true] at h; have := (right_len h.1).2; omega
      simpa [kindChar] using rlText2 t hl n ad kids.length c w
    rw [if_neg h1, if_neg h2] at hb
    by_cases h3 : k = 3
    · subst h3
      simp at hb
      simpa [kindChar] using rlText3 t n (by omega) (by omega) ad kids.length c w
    by_cases h4 : k = 4
    · subst h4
      simp at hb
      simpa [kindChar] using rlText4 t n (by omega) (by omega) ad kids.length c w
    rw [if_neg (by omega)] at hb
    by_cases h5 : k = 5
    · subst h5
      simp at hb
      simpa [kindChar] using rlText5 N (rlTextN N) (by omega) t n kids ad c q (by omega) (by omega) hrr w hd
    by_cases h6 : k = 6
    · subst h6
      simp at hb
      simpa [kindChar] using rlText6 N (rlTextN N) (by omega) t n kids ad c q (by omega) (by omega) hrr w hd
    · rw [if_neg (by omega)] at hb
      cases hb

set_option maxRecDepth 100000 in
set_option maxHeartbeats 2000000 in
theorem rlWrite (x : LT) (q : Nat → Prop) (v : Value) (w : World) (hL : LockIn q w x v) :
    Calls Tryz.prog 17 #[v] w fun e w' => e = .returned (writeV x) ∧ Below w.heap.size w w' := by
  have hr := fun (W : World) (hgw : GL [] w W) => rlRight x q v W (lockIn_gl hgw _ _ hL)
  cases hx : rightL x with
  | false =>
    have H : Hid (writeV x = .tuple #[.string (bs []), .int .i64 110]) := by show writeV x = _; unfold writeV; rw [hx]; rfl
    rw [hx] at hr
    obtain ⟨k, t, n, kids⟩ := x
    obtain ⟨ad, c, rfl, _⟩ := lockIn_open hL
    have HR := Lib.hid hr
    clear hr hL hx
    go_enter Tryz.func17, Tryz.ntmps17
    go_wp2_with fail
    refine (HR.out _ (by (repeat' (first | with_reducible exact gl_refl _ _ | with_reducible assumption | with_reducible refine gl_alloc ?_ _ | with_reducible refine gl_drewN ?_ _ | with_reducible refine gl_drew ?_ | (with_reducible refine gl_setn ?_ ?_ _; · (first | exact Nat.le_refl _ | (simp; done) | (simp; omega) | omega)) | (with_reducible refine gl_seti ?_ ?_ _; · (simp; done)) | with_reducible refine gl_below (by with_reducible assumption) ?_ | with_reducible refine gl_step (by with_reducible assumption) ?_ (by first | (simp; done) | (simp; omega)) | with_reducible refine gl_grown (by with_reducible assumption) ?_ (by first | (simp; done) | (simp; omega)))))).mono ?_
    rintro e w1 ⟨rfl, hb1⟩
    go_wp2_with fail
    go_ret2
    exact ⟨by rw [H.out]; rfl, by (repeat' (first | with_reducible exact Below.refl _ _ | with_reducible assumption | with_reducible refine below_alloc ?_ ?_ _ | with_reducible refine Below.setCell ?_ ?_ _ | with_reducible refine Below.drew ?_ | with_reducible refine below_drewN ?_ _ | with_reducible refine below_step (by assumption) ?_ ?_ | (with_reducible refine Below.trans ?_ (Below.mono (by assumption) ?_)) | exact Nat.le_refl _ | (simp; done) | (simp; omega) | omega))⟩
  | true =>
    have H : Hid (writeV x = .tuple #[.string (bs (lockT x)), .int .i64 0]) := by show writeV x = _; unfold writeV; rw [if_pos hx]
    have hx2 := hx
    unfold rightL at hx2
    rw [Bool.and_eq_true, decide_eq_true_eq] at hx2
    have hc := fun (W : World) (hgw : GL [] w W) => rlTextN (countL x).toNat x q v W (by have := count_pos x; omega) (by omega) hx2.2 (lockIn_gl hgw _ _ hL)
    rw [hx] at hr
    generalize lockT x = lx at *
    obtain ⟨k, t, n, kids⟩ := x
    obtain ⟨ad, c, rfl, _⟩ := lockIn_open hL
    have HR := Lib.hid hr
    have HC := Lib.hid hc
    clear hr hL hx hx2 hc
    go_enter Tryz.func17, Tryz.ntmps17
    go_wp2_with fail
    refine (HR.out _ (by (repeat' (first | with_reducible exact gl_refl _ _ | with_reducible assumption | with_reducible refine gl_alloc ?_ _ | with_reducible refine gl_drewN ?_ _ | with_reducible refine gl_drew ?_ | (with_reducible refine gl_setn ?_ ?_ _; · (first | exact Nat.le_refl _ | (simp; done) | (simp; omega) | omega)) | (with_reducible refine gl_seti ?_ ?_ _; · (simp; done)) | with_reducible refine gl_below (by with_reducible assumption) ?_ | with_reducible refine gl_step (by with_reducible assumption) ?_ (by first | (simp; done) | (simp; omega)) | with_reducible refine gl_grown (by with_reducible assumption) ?_ (by first | (simp; done) | (simp; omega)))))).mono ?_
    rintro e w1 ⟨rfl, hb1⟩
    have hg1 : GL [] w w1 := gl_below hb1 (gl_alloc (gl_refl _ _) _)
    have HB1 := Lib.hid (blk_below (blk_new w (.cells #[.int .u8 k, .string (bs t), .int .i64 n, .slice ad kids.length c] 25)) hb1 (by simp))
    have f1 := blk_cell HB1.out
    have f2 := blk_free HB1.out
    clear hb1
    go_wp2_with fail
    refine (HC.out _ (by (repeat' (first | with_reducible exact gl_refl _ _ | with_reducible assumption | with_reducible refine gl_alloc ?_ _ | with_reducible refine gl_drewN ?_ _ | with_reducible refine gl_drew ?_ | (with_reducible refine gl_setn ?_ ?_ _; · (first | exact Nat.le_refl _ | (simp; done) | (simp; omega) | omega)) | (with_reducible refine gl_seti ?_ ?_ _; · (simp; done)) | with_reducible refine gl_below (by with_reducible assumption) ?_ | with_reducible refine gl_step (by with_reducible assumption) ?_ (by first | (simp; done) | (simp; omega)) | with_reducible refine gl_grown (by with_reducible assumption) ?_ (by first | (simp; done) | (simp; omega)))))).mono ?_
    rintro e w2 ⟨rfl, hb2⟩
    go_wp2_with fail
    go_ret2
    exact ⟨by rw [H.out]; rfl, gl_to_below (gl_below hb2 hg1)⟩

/-- Terms in a row of their own. -/
def KeysPost (w : World) (ks : List (List UInt8)) (e : Ending) (w' : World) : Prop :=
  Below w.heap.size w w' ∧ ∃ (ad : Option Addr) (n c : Nat), e = .returned (.slice ad n c) ∧ w'.ownsRow w.heap.size 22 1 (.slice ad n c) ks.length (ks.map fun y => .string (bs y))
theorem keys_terms {w w' : World} {ks : List (List UInt8)} {e : Ending} (h : KeysPost w ks e w') : Below w.heap.size w w' ∧ ∃ u, e = .returned u ∧ TermsAt u ks w' := by
  obtain ⟨hb, a2, n2, c2, rfl, hown2⟩ := h
  refine ⟨hb, _, rfl, ?_⟩
  have hlen := own_len hown2
  by_cases hz : ks.length = 0
  · exact .inl ⟨a2, c2, by rw [hlen, hz], List.eq_nil_of_length_eq_zero hz⟩
  · obtain ⟨g, cap, hv, hgb, hgw, _, _, hcell⟩ := own_cells hown2 (by omega)
    refine .inr ⟨g, 0, cap, hv, hgw, fun i u hi => ?_⟩
    rw [Nat.zero_add]
    exact hcell i _ (by simp [hi])
def RKeysIH (N : Nat) : Prop := ∀ (x : LT) (q : Nat → Prop) (v : Value) (w : World), countL x ≤ N → N ≤ 1000 → rightsL x = true → LockIn q w x v →
    Calls Tryz.prog 78 #[v] w fun e w' => KeysPost w (keysL x) e w'

set_option maxRecDepth 100000 in
set_option maxHeartbeats 2000000 in
theorem rlKeys1 (t : List UInt8) (n : Int) (ad : Option Addr) (c : Nat) (w : World) :
    Calls Tryz.prog 78 #[.agg #[.int .u8 1, .string (bs t), .int .i64 n, .slice ad 0 c]] w fun e w' => KeysPost w [t] e w' := by
  obtain ⟨t0, ht0, ht1, ht2, ht3⟩ := info_parts Tryz.infoTerm
  go_enter Tryz.func78, Tryz.ntmps78
  go_wp2_with (at_builtin; go_must (refine wpList_append_own _ rfl _ _ 32 rfl w.heap.size 22 t0 (.string ByteArray.empty) 1 16 Tryz.underlying32 ht0 ht1 ht2 ht3 rfl (by decide) _ 0 [] rfl (World.ownsRow_nil _ _ _ _) ⟨w.heap.size + 1, 0, none⟩ 1 1 [.string (bs t)] rfl rfl ?c1 ?c2 ?c3 ?c4 ?c5 ?_; (case c1 => exact cell_one_at (by simp)); (case c2 => exact one1 rfl); (case c3 => (unfold maxLen; omega)); (case c4 => omega); (case c5 => (simp; omega)); (intro v' w4 hown4 hgr4 _); (obtain ⟨ad4, n4, cp4, hv4⟩ := own_slice hown4); (subst hv4); (have HB4 := Lib.hid (blk_grown (blk_alloc (blk_new w (.cells #[.int .u8 1, .string (bs t), .int .i64 n, .slice ad 0 c] 25)) _) hgr4 (by show ¬ some w.heap.size = (Value.slice none 0 0).ownBlock; simp [Value.ownBlock]))); (have g3 := blk_cell HB4.out); (have g4 := blk_free HB4.out)))
  have hfin : KeysPost w [t] (.returned (.slice ad4 n4 cp4)) w4 := ⟨gl_to_below (gl_grown hgr4 (gl_alloc (gl_alloc (gl_refl _ _) _) _) (fun r hr => by have hr2 : (Value.slice none 0 0).ownBlock = some r := hr; cases hr2)), ad4, n4, cp4, rfl, by simpa using hown4⟩
  have HFIN := Lib.hid hfin
  clear hfin
  go_wp2
  go_loopw [3, 4] (fun lv iv wr => iv = .int .i64 0 ∧ lv = .slice ad4 n4 cp4 ∧ Hid (wr = w4)) (fun _ _ _ => 0)
  case atStart => exact ⟨rfl, rfl, Lib.hid rfl⟩
  case round =>
    obtain ⟨rfl, rfl, hwr⟩ := hrel
    have hwr2 := hwr.out
    subst hwr2
    go_wp2
    go_ret
    exact HFIN.out

set_option maxRecDepth 100000 in
set_option maxHeartbeats 4000000 in
theorem rlKeys2 (N : Nat) (ih : RKeysIH N) (hN : N ≤ 1000) (k n : Int) (hk1 : (k == 1) = false) (t : List UInt8) (kids : List LT) (ad : Option Addr) (c : Nat) (q : Nat → Prop) (hcN : countRow kids ≤ N) (hrr : rightsRow kids = true) (hkn : kids.length ≤ 1000) (w : World)
    (hd : kids = [] ∨ ∃ b o, ad = some ⟨b, o, none⟩ ∧ b < w.heap.size ∧ q b ∧ RowIn q w kids b o) :
    Calls Tryz.prog 78 #[.agg #[.int .u8 k, .string (bs t), .int .i64 n, .slice ad kids.length c]] w fun e w' => KeysPost w (keysRow kids) e w' := by
  obtain ⟨t0, ht0, ht1, ht2, ht3⟩ := info_parts Tryz.infoTerm
  have HD := Lib.hid hd
  have IH := Lib.hid ih
  have HR := Lib.hid hrr
  clear hd ih hrr
  go_enter Tryz.func78, Tryz.ntmps78
  go_wp2
  go_loopw [3, 4] (fun lv iv wr => ∃ (j : Nat) (ks : List (List UInt8)) (a : Option Addr) (m cp : Nat), j ≤ kids.length ∧ iv = .int .i64 j ∧ lv = .slice a m cp ∧ Hid (ks = keysRow (kids.take j)) ∧ Hid (wr.ownsRow w.heap.size 22 1 (.slice a m cp) ks.length (ks.map fun y => .string (bs y))) ∧ Hid (wr.heap[w.heap.size]? = some (.cells #[.int .u8 k, .string (bs t), .int .i64 n, .slice ad kids.length c] 25 (0, 0))) ∧ Hid (GL [] w wr)) (fun _ iv _ => kids.length - (intOf iv).toNat)
  case atStart => exact ⟨0, [], none, 0, 0, by omega, rfl, rfl, Lib.hid (by rw [List.take_zero, keysRow_nil]), Lib.hid (World.ownsRow_nil _ _ _ _), Lib.hid (blk_new w _), Lib.hid (by (repeat' (first | with_reducible exact gl_refl _ _ | with_reducible assumption | with_reducible refine gl_alloc ?_ _ | with_reducible refine gl_drewN ?_ _ | with_reducible refine gl_drew ?_ | (with_reducible refine gl_setn ?_ ?_ _; · (first | exact Nat.le_refl _ | (simp; done) | (simp; omega) | omega)) | (with_reducible refine gl_seti ?_ ?_ _; · (simp; done)) | with_reducible refine gl_below (by with_reducible assumption) ?_ | with_reducible refine gl_step (by with_reducible assumption) ?_ (by first | (simp; done) | (simp; omega)) | with_reducible refine gl_grown (by with_reducible assumption) ?_ (by first | (simp; done) | (simp; omega)))))⟩
  case round =>
    obtain ⟨j, ks, a, m, cp, hj, rfl, rfl, hks, HO, H1, hgr⟩ := hrel
    have f1 := blk_cell H1.out
    have e1 := blk_free H1.out
    by_cases hlt : j < kids.length
    · have i3 : (j : Int) < kids.length := by omega
      rcases HD.out with h0' | ⟨b, o, rfl, hb, hqb, hrow⟩
      · subst h0'; simp at hlt
      obtain ⟨u0, u1, u2, u3, hx, c0, c1, c2', c3⟩ := rowIn_get kids b o j kids[j] (rowIn_gl hgr.out kids b o hb hqb hrow) (List.getElem?_eq_getElem hlt)
      obtain ⟨ku, nu, tu, au, mu, cu, rfl, rfl, rfl, rfl⟩ := lockIn_cells hx
      have hcx : countL kids[j] ≤ N := by have := countL_mem kids kids[j] (List.getElem_mem hlt); omega
      have hrx := rights_mem kids kids[j] HR.out (List.getElem_mem hlt)
      have hcall := fun (W : World) (hg : GL [] wr W) => IH.out kids[j] q _ W hcx hN hrx (lockIn_gl hg _ _ hx)
      have hct := countRow_take kids j hlt
      have hkl := keysRow_len (kids.take j)
      have hxl := keysL_len kids[j]
      have htk := keysRow_take kids j hlt
      rw [← hks.out] at hkl htk
      generalize keysL kids[j] = kx at *
      have HTK := Lib.hid htk
      have HC := Lib.hid hcall
      have hks2 : ks.length ≤ 1000 := by omega
      have hkx2 : kx.length ≤ 1000 := by omega
      have hszr := hgr.out.size
      have hown0 := HO.out
      have hge := own_ge hown0
      clear hcall hx hrow hcx hrx htk HD hct hkl hxl
      have hb1 : w.heap.size ≤ wr.heap.size := hszr
      go_wp2_with (first
        | (go_at_call 78; refine (HC.out _ (gl_refl _ _)).mono ?_; rintro e w2 ⟨hb2, a2, n2, cc2, rfl, hown2⟩; have hown1 := own_below hown0 hb2 rfl; have H2 := Lib.hid (blk_below H1.out hb2 (blk_lt H1.out)); have hg2 : GL [] w w2 := gl_below hb2 hgr.out; have hs2 := hb2.size)
        | (at_builtin; go_must (refine wpList_append_row rfl _ _ 32 rfl w.heap.size 22 t0 (.string ByteArray.empty) 1 16 Tryz.underlying32 ht0 ht1 ht2 ht3 rfl (by decide) _ ks.length _ rfl hown1 wr.heap.size _ kx.length _ rfl hown2 ?c2 ?c3 ?c4 ?c5 ?_; (case c2 => (intro u h; rw [List.mem_map] at h; obtain ⟨y, _, rfl⟩ := h; rfl)); (case c3 => (unfold maxLen; omega)); (case c4 => omega); (case c5 => omega); (intro v' w4 hown4 hgr4); (obtain ⟨ad4, n4, cp4, hv4⟩ := own_slice hown4); (subst hv4))))
      go_roundw
      case rel => exact ⟨j + 1, ks ++ kx, _, _, _, by omega, by go_num, rfl, Lib.hid HTK.out.symm, Lib.hid (by simpa using hown4), Lib.hid (blk_grown H2.out hgr4 (own_ne hown0 H1.out (by decide))), Lib.hid (gl_grown hgr4 hg2 (fun r hr => .inr (hge r hr)))⟩
      case measure => simp [intOf]; omega
    · obtain rfl : j = kids.length := by omega
      have i4 : decide ((kids.length : Int) < kids.length) = false := by simp
      have hz := hks.out
      rw [List.take_length] at hz
      have hfin : KeysPost w (keysRow kids) (.returned (.slice a m cp)) wr := ⟨gl_to_below hgr.out, a, m, cp, rfl, by rw [← hz]; exact HO.out⟩
      have HF := Lib.hid hfin
      clear hz hfin hks
      go_wp2
      go_ret
      exact HF.out
theorem rlKeysN : ∀ N, RKeysIH N
  | 0 => fun x q v w hN _ _ _ => by have := count_pos x; omega
  | N + 1 => fun x q v w hN hK hr hL => by
    obtain ⟨k, t, n, kids⟩ := x
    obtain ⟨ad, c, rfl, _, _, _, _, hd⟩ := lockIn_open hL
    rw [countL] at hN
    have hpr := count_pos_row kids
    rw [rightsL, Bool.and_eq_true] at hr
    obtain ⟨hb, hrr⟩ := hr
    rw [keysL]
    by_cases h1 : k = 1
    · subst h1
      have hm : kids.length = 0 := by
        unfold bareR at hb
        simp at hb
        rw [hb.1.2]; rfl
      obtain rfl := List.eq_nil_of_length_eq_zero hm
      rw [if_pos rfl, keysRow_nil, List.append_nil]
      exact rlKeys1 t n ad c w
    · rw [if_neg h1, List.nil_append]
      have hl8 : kids.length ≤ 1000 := by
        unfold bareR at hb
        rw [if_neg h1] at hb
        split at hb
        · simp at hb; rw [hb.1.2]; simp
        · split at hb
          · simp only [Bool.and_eq_true, decide_eq_true_eq] at hb; omega
          · split at hb
            · simp only [Bool.and_eq_true, decide_eq_true_eq] at hb; omega
            · cases hb
      exact rlKeys2 N (rlKeysN N) (by omega) k n (by simpa using h1) t kids ad c q (by omega) hrr hl8 w hd

set_option maxRecDepth 100000 in
set_option maxHeartbeats 4000000 in
theorem rlKeys (x : LT) (q : Nat → Prop) (v : Value) (w : World) (hL : LockIn q w x v) :
    Calls Tryz.prog 22 #[v] w fun e w' => Below w.heap.size w w' ∧ ∃ u, e = .returned u ∧ TermsAt u (keysP x) w' := by
  have hr := fun (W : World) (hgw : GL [] w W) => rlRight x q v W (lockIn_gl hgw _ _ hL)
  cases hx : rightL x with
  | false =>
    have H : Hid (keysP x = []) := by show keysP x = []; unfold keysP; rw [hx]; rfl
    rw [hx] at hr
    obtain ⟨k, t, n, kids⟩ := x
    obtain ⟨ad, c, rfl, _⟩ := lockIn_open hL
    have HR := Lib.hid hr
    clear hr hL hx
    go_enter Tryz.func22, Tryz.ntmps22
    go_wp2_with fail
    refine (HR.out _ (by (repeat' (first | with_reducible exact gl_refl _ _ | with_reducible assumption | with_reducible refine gl_alloc ?_ _ | with_reducible refine gl_drewN ?_ _ | with_reducible refine gl_drew ?_ | (with_reducible refine gl_setn ?_ ?_ _; · (first | exact Nat.le_refl _ | (simp; done) | (simp; omega) | omega)) | (with_reducible refine gl_seti ?_ ?_ _; · (simp; done)) | with_reducible refine gl_below (by with_reducible assumption) ?_ | with_reducible refine gl_step (by with_reducible assumption) ?_ (by first | (simp; done) | (simp; omega)) | with_reducible refine gl_grown (by with_reducible assumption) ?_ (by first | (simp; done) | (simp; omega)))))).mono ?_
    rintro e w1 ⟨rfl, hb1⟩
    go_wp2_with fail
    go_ret
    exact ⟨by (repeat' (first | with_reducible exact Below.refl _ _ | with_reducible assumption | with_reducible refine below_alloc ?_ ?_ _ | with_reducible refine Below.setCell ?_ ?_ _ | with_reducible refine Below.drew ?_ | with_reducible refine below_drewN ?_ _ | with_reducible refine below_step (by assumption) ?_ ?_ | (with_reducible refine Below.trans ?_ (Below.mono (by assumption) ?_)) | exact Nat.le_refl _ | (simp; done) | (simp; omega) | omega)), .slice none 0 0, rfl, by rw [H.out]; exact .inl ⟨none, 0, rfl, rfl⟩⟩
  | true =>
    have H : Hid (keysP x = keysL x) := by show keysP x = _; unfold keysP; rw [if_pos hx]
    have hx2 := hx
    unfold rightL at hx2
    rw [Bool.and_eq_true, decide_eq_true_eq] at hx2
    have hc := fun (W : World) (hgw : GL [] w W) => rlKeysN (countL x).toNat x q v W (by have := count_pos x; omega) (by omega) hx2.2 (lockIn_gl hgw _ _ hL)
    rw [hx] at hr
    rw [H.out]
    generalize keysL x = kx at *
    obtain ⟨k, t, n, kids⟩ := x
    obtain ⟨ad, c, rfl, _⟩ := lockIn_open hL
    have HR := Lib.hid hr
    have HC := Lib.hid hc
    clear hr hL hx hx2 hc
    go_enter Tryz.func22, Tryz.ntmps22
    go_wp2_with fail
    refine (HR.out _ (by (repeat' (first | with_reducible exact gl_refl _ _ | with_reducible assumption | with_reducible refine gl_alloc ?_ _ | with_reducible refine gl_drewN ?_ _ | with_reducible refine gl_drew ?_ | (with_reducible refine gl_setn ?_ ?_ _; · (first | exact Nat.le_refl _ | (simp; done) | (simp; omega) | omega)) | (with_reducible refine gl_seti ?_ ?_ _; · (simp; done)) | with_reducible refine gl_below (by with_reducible assumption) ?_ | with_reducible refine gl_step (by with_reducible assumption) ?_ (by first | (simp; done) | (simp; omega)) | with_reducible refine gl_grown (by with_reducible assumption) ?_ (by first | (simp; done) | (simp; omega)))))).mono ?_
    rintro e w1 ⟨rfl, hb1⟩
    have hg1 : GL [] w w1 := gl_below hb1 (gl_alloc (gl_refl _ _) _)
    have HB1 := Lib.hid (blk_below (blk_new w (.cells #[.int .u8 k, .string (bs t), .int .i64 n, .slice ad kids.length c] 25)) hb1 (by simp))
    have f1 := blk_cell HB1.out
    have f2 := blk_free HB1.out
    clear hb1
    go_wp2_with fail
    refine (HC.out _ (by (repeat' (first | with_reducible exact gl_refl _ _ | with_reducible assumption | with_reducible refine gl_alloc ?_ _ | with_reducible refine gl_drewN ?_ _ | with_reducible refine gl_drew ?_ | (with_reducible refine gl_setn ?_ ?_ _; · (first | exact Nat.le_refl _ | (simp; done) | (simp; omega) | omega)) | (with_reducible refine gl_seti ?_ ?_ _; · (simp; done)) | with_reducible refine gl_below (by with_reducible assumption) ?_ | with_reducible refine gl_step (by with_reducible assumption) ?_ (by first | (simp; done) | (simp; omega)) | with_reducible refine gl_grown (by with_reducible assumption) ?_ (by first | (simp; done) | (simp; omega)))))).mono ?_
    intro e w2 hk
    obtain ⟨hb2, u, rfl, hu⟩ := keys_terms hk
    obtain ⟨ad2, c2, rfl, _⟩ := termsAt_open hu
    go_wp2_with fail
    go_ret
    exact ⟨gl_to_below (gl_below hb2 hg1), _, rfl, hu⟩

set_option maxRecDepth 100000 in
set_option maxHeartbeats 4000000 in
theorem lkSameTermsN (xa ya : Option Addr) (xc yc m k : Nat) (h : ((m : Int) != (k : Int)) = true) (w : World) :
    Calls Tryz.prog 20 #[.slice xa m xc, .slice ya k yc] w fun e w' => e = .returned (.bool false) ∧ Below w.heap.size w w' := by
  go_enter Tryz.func20, Tryz.ntmps20
  go_wp2
  go_ret
  exact ⟨rfl, Below.refl _ _⟩

set_option maxRecDepth 100000 in
set_option maxHeartbeats 4000000 in
theorem lkSameTermsL (xs ys : List (List UInt8)) (xa ya : Option Addr) (xc yc : Nat) (w : World) (hl : xs.length = ys.length) (hn : xs.length ≤ 9000000000000000000)
    (hx : xs = [] ∨ ∃ b o, xa = some ⟨b, o, none⟩ ∧ b < w.heap.size ∧ ∀ (k : Nat) (t : List UInt8), xs[k]? = some t → w.cell? ⟨b, o + k, none⟩ = some (.string (bs t)))
    (hy : ys = [] ∨ ∃ b o, ya = some ⟨b, o, none⟩ ∧ b < w.heap.size ∧ ∀ (k : Nat) (t : List UInt8), ys[k]? = some t → w.cell? ⟨b, o + k, none⟩ = some (.string (bs t))) :
    Calls Tryz.prog 20 #[.slice xa xs.length xc, .slice ya xs.length yc] w fun e w' => e = .returned (.bool (decide (xs = ys))) ∧ Below w.heap.size w w' := by
  have HX := Lib.hid hx
  have HY := Lib.hid hy
  have HL := Lib.hid hl
  clear hx hy hl
  go_enter Tryz.func20, Tryz.ntmps20
  go_wp2
  go_loopw [5] (fun iv wr => ∃ (j : Nat), j ≤ xs.length ∧ iv = .int .i64 j ∧ Hid (xs.take j = ys.take j) ∧ Hid (GL [] w wr)) (fun iv _ => xs.length - (intOf iv).toNat)
  case atStart => exact ⟨0, by omega, rfl, Lib.hid rfl, Lib.hid (gl_refl _ _)⟩
  case round =>
    obtain ⟨j, hj, rfl, hpre, hgr⟩ := hrel
    by_cases hlt : j < xs.length
    · have hlty : j < ys.length := by have := HL.out; omega
      have i3 : (j : Int) < xs.length := by omega
      rcases HX.out with h0 | ⟨b, o, rfl, hb, hc1⟩
      · subst h0; simp at hlt
      rcases HY.out with h0 | ⟨b2, o2, rfl, hb2, hc2⟩
      · subst h0; simp at hlty
      have d1 := hc1 j xs[j] (List.getElem?_eq_getElem hlt)
      have d2 := hc2 j ys[j] (List.getElem?_eq_getElem hlty)
      have q1 : ∀ i, wr.cell? ⟨b, i, none⟩ = w.cell? ⟨b, i, none⟩ := fun i => by simp only [World.cell?, hgr.out.block b hb (by simp)]
      have q2 : ∀ i, wr.cell? ⟨b2, i, none⟩ = w.cell? ⟨b2, i, none⟩ := fun i => by simp only [World.cell?, hgr.out.block b2 hb2 (by simp)]
      rw [← q1] at d1
      rw [← q2] at d2
      clear q1 q2
      have htx : xs.take (j + 1) = xs.take j ++ [xs[j]] := List.take_succ_eq_append_getElem hlt
      have hty : ys.take (j + 1) = ys.take j ++ [ys[j]] := List.take_succ_eq_append_getElem hlty
      by_cases he : xs[j] = ys[j]
      · have HN : Hid (xs.take (j + 1) = ys.take (j + 1)) := by show _ = _; rw [htx, hty, hpre.out, he]
        rw [← he] at d2
        generalize xs[j] = xj at *
        clear HX HY hc1 hc2 htx hty he hlty
        go_wp2
        go_quiet (fail)
        go_wp2
        go_roundw
        case rel => exact ⟨j + 1, by omega, by go_num, HN, Lib.hid (by have := hgr.out; (repeat' (first | with_reducible exact gl_refl _ _ | with_reducible assumption | with_reducible refine gl_alloc ?_ _ | with_reducible refine gl_drewN ?_ _ | with_reducible refine gl_drew ?_ | (with_reducible refine gl_setn ?_ ?_ _; · (first | exact Nat.le_refl _ | (simp; done) | (simp; omega) | omega)) | (with_reducible refine gl_seti ?_ ?_ _; · (simp; done)) | with_reducible refine gl_below (by with_reducible assumption) ?_ | with_reducible refine gl_step (by with_reducible assumption) ?_ (by first | (simp; done) | (simp; omega)) | with_reducible refine gl_grown (by with_reducible assumption) ?_ (by first | (simp; done) | (simp; omega)))))⟩
        case measure => simp [intOf]; omega
      · have hne : (xs[j] != ys[j]) = true := by simpa using he
        have hne0 : (xs[j] == ys[j]) = false := by simpa using he
        have HI : Hid (decide (xs = ys) = false) := by
          show _ = false
          rw [decide_eq_false_iff_not]
          intro h
          subst h
          exact he rfl
        generalize xs[j] = xj at *
        generalize ys[j] = yj at *
        clear HX HY hc1 hc2 htx hty hlty
        go_wp2
        go_quiet (fail)
        go_wp2
        go_ret
        exact ⟨by first | (rw [HI.out]; done) | (rw [HI.out]; rfl), gl_to_below (by have := hgr.out; (repeat' (first | with_reducible exact gl_refl _ _ | with_reducible assumption | with_reducible refine gl_alloc ?_ _ | with_reducible refine gl_drewN ?_ _ | with_reducible refine gl_drew ?_ | (with_reducible refine gl_setn ?_ ?_ _; · (first | exact Nat.le_refl _ | (simp; done) | (simp; omega) | omega)) | (with_reducible refine gl_seti ?_ ?_ _; · (simp; done)) | with_reducible refine gl_below (by with_reducible assumption) ?_ | with_reducible refine gl_step (by with_reducible assumption) ?_ (by first | (simp; done) | (simp; omega)) | with_reducible refine gl_grown (by with_reducible assumption) ?_ (by first | (simp; done) | (simp; omega)))))⟩
    · obtain rfl : j = xs.length := by omega
      have i4 : decide ((xs.length : Int) < xs.length) = false := by simp
      have HI : Hid (decide (xs = ys) = true) := by
        show _ = true
        have hz := hpre.out
        rw [List.take_length, HL.out, List.take_length] at hz
        rw [decide_eq_true_eq]; exact hz
      go_wp2
      go_ret
      exact ⟨by first | (rw [HI.out]; done) | (rw [HI.out]; rfl), gl_to_below (by have := hgr.out; (repeat' (first | with_reducible exact gl_refl _ _ | with_reducible assumption | with_reducible refine gl_alloc ?_ _ | with_reducible refine gl_drewN ?_ _ | with_reducible refine gl_drew ?_ | (with_reducible refine gl_setn ?_ ?_ _; · (first | exact Nat.le_refl _ | (simp; done) | (simp; omega) | omega)) | (with_reducible refine gl_seti ?_ ?_ _; · (simp; done)) | with_reducible refine gl_below (by with_reducible assumption) ?_ | with_reducible refine gl_step (by with_reducible assumption) ?_ (by first | (simp; done) | (simp; omega)) | with_reducible refine gl_grown (by with_reducible assumption) ?_ (by first | (simp; done) | (simp; omega)))))⟩
theorem lkSameTerms (xs ys : List (List UInt8)) (u v : Value) (w : World) (hn : xs.length ≤ 9000000000000000000) (hu : TermsAt u xs w) (hv : TermsAt v ys w) :
    Calls Tryz.prog 20 #[u, v] w fun e w' => e = .returned (.bool (decide (xs = ys))) ∧ Below w.heap.size w w' := by
  obtain ⟨xa, xc, rfl, hx⟩ := termsAt_open hu
  obtain ⟨ya, yc, rfl, hy⟩ := termsAt_open hv
  by_cases hl : xs.length = ys.length
  · have := lkSameTermsL xs ys xa ya xc yc w hl hn hx hy
    rw [hl] at this ⊢
    exact this
  · have h1 : decide (xs = ys) = false := by
      rw [decide_eq_false_iff_not]
      intro h
      subst h
      exact hl rfl
    rw [h1]
    exact lkSameTermsN xa ya xc yc _ _ (by simp; omega) w
end Go.Proofs.YtfmckibiblhakaaGreatDoor
