/- The program's locks: Keys. -/
import Derived.Test.YtfmckibiblhakaaGreatDoorLockO
import Derived.Test.YtfmckibiblhakaaGreatDoorLockF
set_option linter.unusedSimpArgs false
set_option linter.unusedVariables false
namespace Go.Proofs.YtfmckibiblhakaaGreatDoor
open Go.RowKit

def OutAt (w : World) (O B : Nat) (ks : List (List UInt8)) : Prop := ∃ (ad : Option Addr) (n c : Nat), w.heap[O]? = some (.cells #[.slice ad n c] 32 (0, 0)) ∧ w.ownsRow B 22 1 (.slice ad n c) ks.length (ks.map fun k => .string (bs k))
def GAt (w : World) (G O : Nat) : Prop := w.heap[G]? = some (.cells #[.func (.func 77) #[] #[.pointer (some ⟨O, 0, none⟩), .pointer (some ⟨G, 0, none⟩)]] 106 (0, 0))
theorem outAt_alloc {w : World} {O B : Nat} {ks : List (List UInt8)} (h : OutAt w O B ks) (o : Obj) : OutAt (w.alloc o) O B ks := by
  obtain ⟨ad, n, c, h1, h2⟩ := h
  exact ⟨ad, n, c, blk_alloc h1 o, own_alloc h2 o⟩
theorem keysRow_nil : keysRow [] = [] := by rw [keysRow]
theorem keysRow_cons (x : LT) (r : List LT) : keysRow (x :: r) = keysL x ++ keysRow r := by rw [keysRow]
theorem keysRow_append : ∀ (l m : List LT), keysRow (l ++ m) = keysRow l ++ keysRow m
  | [], m => by rw [keysRow_nil]; rfl
  | x :: r, m => by rw [List.cons_append, keysRow_cons, keysRow_cons, keysRow_append r m, List.append_assoc]
theorem keysRow_take (l : List LT) (j : Nat) (h : j < l.length) : keysRow (l.take (j + 1)) = keysRow (l.take j) ++ keysL l[j] := by
  rw [List.take_succ_eq_append_getElem h, keysRow_append, keysRow_cons, keysRow_nil, List.append_nil]
mutual
theorem keysL_len : ∀ x : LT, ((keysL x).length : Int) ≤ countL x
  | .mk k t n kids => by
    have := keysRow_len kids
    rw [keysL, countL]
    split <;> simp <;> omega
theorem keysRow_len : ∀ l : List LT, ((keysRow l).length : Int) ≤ countRow l
  | [] => by rw [keysRow_nil, countRow_nil]; simp
  | x :: r => by
    have h1 := keysL_len x
    have h2 := keysRow_len r
    rw [keysRow_cons, countRow_cons, List.length_append]
    omega
end
theorem countRow_take (l : List LT) (j : Nat) (h : j < l.length) : countRow (l.take j) + countL l[j] ≤ countRow l := by
  have e : l = l.take j ++ (l[j] :: l.drop (j + 1)) := by rw [← List.drop_eq_getElem_cons h, List.take_append_drop]
  have happ : ∀ a b : List LT, countRow (a ++ b) = countRow a + countRow b := by
    intro a b
    induction a with
    | nil => rw [countRow_nil]; simp
    | cons x r ih => rw [List.cons_append, countRow_cons, countRow_cons, ih]; omega
  have h2 := congrArg countRow e
  rw [happ, countRow_cons] at h2
  have := count_pos_row (l.drop (j + 1))
  omega

theorem own_lt2 {w : World} {base e size n : Nat} {v : Value} {xs : List Value} (h : w.ownsRow base e size v n xs) : ∀ g, v.ownBlock = some g → g < w.heap.size := by
  intro g hg
  rcases h.2 with ⟨rfl, _⟩ | ⟨g', cap, cur, rfl, _, h', _⟩
  · simp [Value.ownBlock] at hg
  · simp [Value.ownBlock] at hg
    subst hg
    exact blk_lt h'
def KeysIH (N : Nat) : Prop := ∀ (x : LT) (v : Value) (W0 w : World) (O G : Nat) (ks : List (List UInt8)), countL x ≤ N → rightsL x = true → O ≠ G → O < W0.heap.size → G < W0.heap.size → GL [O] W0 w → GAt W0 G O → OutAt w O W0.heap.size ks → LockIn (fun b => b ≠ O) W0 x v → (ks.length : Int) + countL x ≤ 1000 →
    Calls Tryz.prog 77 #[v, .pointer (some ⟨O, 0, none⟩), .pointer (some ⟨G, 0, none⟩)] w fun e w' => e = .returned (.tuple #[]) ∧ GL [O] W0 w' ∧ OutAt w' O W0.heap.size (ks ++ keysL x)

set_option maxRecDepth 100000 in
set_option maxHeartbeats 4000000 in
theorem lkKeys1 (t : List UInt8) (n : Int) (ad : Option Addr) (c : Nat) (W0 w : World) (O G : Nat) (ks : List (List UInt8)) (hOB : O < W0.heap.size) (hg : GL [O] W0 w) (hO : OutAt w O W0.heap.size ks) (hk : ks.length ≤ 1000) :
    Calls Tryz.prog 77 #[.agg #[.int .u8 1, .string (bs t), .int .i64 n, .slice ad 0 c], .pointer (some ⟨O, 0, none⟩), .pointer (some ⟨G, 0, none⟩)] w fun e w' => e = .returned (.tuple #[]) ∧ GL [O] W0 w' ∧ OutAt w' O W0.heap.size (ks ++ [t]) := by
  obtain ⟨a, m, cp, hob, hown⟩ := hO
  obtain ⟨t0, ht0, ht1, ht2, ht3⟩ := info_parts Tryz.infoTerm
  have hge := own_ge hown
  have hlt := own_lt2 hown
  have f1 := blk_cell hob
  have f2 := blk_free hob
  have f3 := blk_lt hob
  have HO := Lib.hid hob
  have hsz := hg.size
  clear hob
  go_enter Tryz.func77, Tryz.ntmps77
  go_wp2_with (at_builtin; go_must (refine wpList_append_own _ rfl _ _ 32 rfl W0.heap.size 22 t0 (.string ByteArray.empty) 1 16 Tryz.underlying32 ht0 ht1 ht2 ht3 rfl (by decide) _ ks.length _ rfl (own_alloc (own_alloc hown _) _) ⟨w.heap.size + 1, 0, none⟩ 1 1 [.string (bs t)] rfl rfl ?c1 ?c2 ?c3 ?c4 ?c5 ?_; (case c1 => exact cell_one_at (by simp)); (case c2 => exact one1 rfl); (case c3 => (unfold maxLen; omega)); (case c4 => omega); (case c5 => (simp; omega)); (intro v' w4 hown4 hgr4 _); (obtain ⟨ad4, n4, cp4, hv4⟩ := own_slice hown4); (subst hv4); (have HO4 := Lib.hid (blk_grown (blk_alloc (blk_alloc HO.out _) _) hgr4 (by show some O ≠ (Value.slice a m cp).ownBlock; intro h; have := hge O h.symm; omega))); (have g1 := blk_cell HO4.out); (have g2 := blk_free HO4.out); (have HB4 := Lib.hid (blk_grown (blk_alloc (blk_new w (.cells #[.int .u8 1, .string (bs t), .int .i64 n, .slice ad 0 c] 25)) _) hgr4 (by show some w.heap.size ≠ (Value.slice a m cp).ownBlock; intro h; have := hlt _ h.symm; omega))); (have g3 := blk_cell HB4.out); (have g4 := blk_free HB4.out); (have hneO : w.heap.size ≠ O := by omega)))
  have hfin : GL [O] W0 (w4.setCell ⟨O, 0, none⟩ (.slice ad4 n4 cp4)) ∧ OutAt (w4.setCell ⟨O, 0, none⟩ (.slice ad4 n4 cp4)) O W0.heap.size (ks ++ [t]) := by
    refine ⟨gl_set (gl_grown hgr4 (gl_alloc (gl_alloc hg _) _) (fun r hr => .inr (hge r hr))) (.inl (by simp)) _, ad4, n4, cp4, blk_set HO4.out 0 _, ?_⟩
    have h5 := own_ne_set hown4 (p := ⟨O, 0, none⟩) (fun h => by have := own_ge hown4 O h.symm; omega) (.slice ad4 n4 cp4)
    simpa using h5
  have HFIN := Lib.hid hfin
  clear hfin
  go_wp2
  go_loopw [5, 17] (fun _ iv wr => iv = .int .i64 0 ∧ Hid (wr = w4.setCell ⟨O, 0, none⟩ (.slice ad4 n4 cp4))) (fun _ _ _ => 0)
  case atStart => exact ⟨rfl, rfl⟩
  case round =>
    obtain ⟨rfl, hwr⟩ := hrel
    have hwr2 := hwr.out
    subst hwr2
    go_wp2
    go_end0
    exact ⟨rfl, HFIN.out.1, HFIN.out.2⟩

set_option maxRecDepth 100000 in
set_option maxHeartbeats 4000000 in
theorem lkKeys2 (N : Nat) (ih : KeysIH N) (k n : Int) (hk1 : (k == 1) = false) (t : List UInt8) (kids : List LT) (ad : Option Addr) (c : Nat) (hcN : countRow kids ≤ N) (hrr : rightsRow kids = true) (W0 w : World) (O G : Nat) (ks : List (List UInt8)) (hOG : O ≠ G) (hOB : O < W0.heap.size) (hGB : G < W0.heap.size) (hg : GL [O] W0 w) (hGA : GAt W0 G O) (hO : OutAt w O W0.heap.size ks)
    (hd : kids = [] ∨ ∃ b o, ad = some ⟨b, o, none⟩ ∧ b < W0.heap.size ∧ b ≠ O ∧ RowIn (fun b => b ≠ O) W0 kids b o) (hkn : kids.length ≤ 1000) (hk : (ks.length : Int) + countRow kids ≤ 1000) :
    Calls Tryz.prog 77 #[.agg #[.int .u8 k, .string (bs t), .int .i64 n, .slice ad kids.length c], .pointer (some ⟨O, 0, none⟩), .pointer (some ⟨G, 0, none⟩)] w fun e w' => e = .returned (.tuple #[]) ∧ GL [O] W0 w' ∧ OutAt w' O W0.heap.size (ks ++ keysRow kids) := by
  have HD := Lib.hid hd
  have IH := Lib.hid ih
  have HR := Lib.hid hrr
  have HGA := Lib.hid hGA
  have HO := Lib.hid hO
  have hsz := hg.size
  clear hd ih hrr hGA hO
  go_enter Tryz.func77, Tryz.ntmps77
  go_wp2
  go_loopw [5, 17] (fun _ iv wr => ∃ j : Nat, j ≤ kids.length ∧ iv = .int .i64 j ∧ Hid (GL [O] W0 wr) ∧ Hid (OutAt wr O W0.heap.size (ks ++ keysRow (kids.take j)))) (fun _ iv _ => kids.length - (intOf iv).toNat)
  case atStart => exact ⟨0, by omega, rfl, Lib.hid (gl_alloc hg _), Lib.hid (by rw [List.take_zero, keysRow_nil, List.append_nil]; exact outAt_alloc HO.out _)⟩
  case round =>
    obtain ⟨j, hj, rfl, hgr, hor⟩ := hrel
    by_cases hlt : j < kids.length
    · have i3 : (j : Int) < kids.length := by omega
      rcases HD.out with h0 | ⟨b, o, rfl, hb, hbO, hrow⟩
      · subst h0; simp at hlt
      have hst : Stay (fun b => b ≠ O) W0 wr := ⟨hgr.out.size, fun b hb hp => hgr.out.block b hb (by simpa using hp)⟩
      obtain ⟨u0, u1, u2, u3, hx0, _, _, _, _⟩ := rowIn_get kids b o j kids[j] hrow (List.getElem?_eq_getElem hlt)
      obtain ⟨z0, z1, z2, z3, hx, c0, c1, c2, c3⟩ := rowIn_get kids b o j kids[j] (rowIn_stay hst (fun _ _ h => h) kids b o hb hbO hrow) (List.getElem?_eq_getElem hlt)
      obtain ⟨y0, y1, y2, y3, hy, d0, d1, d2, d3⟩ := rowIn_get kids b o j kids[j] hrow (List.getElem?_eq_getElem hlt)
      have hcell : ∀ i, wr.cell? ⟨b, i, none⟩ = W0.cell? ⟨b, i, none⟩ := fun i => by simp only [World.cell?, hst.2 b hb hbO]
      rw [hcell] at c0 c1 c2 c3
      obtain rfl := Option.some.inj (c0.symm.trans d0)
      obtain rfl := Option.some.inj (c1.symm.trans d1)
      obtain rfl := Option.some.inj (c2.symm.trans d2)
      obtain rfl := Option.some.inj (c3.symm.trans d3)
      rw [← hcell] at c0 c1 c2 c3
      obtain ⟨ku, nu, tu, au, mu, cu, rfl, rfl, rfl, rfl⟩ := lockIn_cells hy
      clear d0 d1 d2 d3 hx0 hx hcell
      have hcx : countL kids[j] ≤ N := by have := countL_mem kids kids[j] (List.getElem_mem hlt); omega
      have hrx := rights_mem kids kids[j] HR.out (List.getElem_mem hlt)
      have htk := keysRow_take kids j hlt
      have hct := countRow_take kids j hlt
      have hkl := keysRow_len (kids.take j)
      have hcall := fun (W : World) (hW : GL [O] W0 W) (hOW : OutAt W O W0.heap.size (ks ++ keysRow (kids.take j))) => IH.out kids[j] _ W0 W O G _ hcx hrx hOG hOB hGB hW HGA.out hOW hy (by simp; omega)
      have HTK := Lib.hid htk
      generalize keysL kids[j] = kx at *
      have HC := Lib.hid hcall
      have hG1 := blk_gl HGA.out hgr.out (by simp; exact fun h => hOG h.symm)
      have f1 := blk_cell hG1
      have f2 := blk_free hG1
      have f3 := blk_lt hG1
      have hszr := hgr.out.size
      clear hcall hy hrow hcx hrx htk HD hG1 hst hct hkl
      go_wp2_with fail
      refine (HC.out _ (gl_alloc hgr.out _) (outAt_alloc hor.out _)).mono ?_
      rintro e w1 ⟨rfl, hg1, ho1⟩
      go_wp2_with fail
      go_roundw
      case rel => exact ⟨j + 1, by omega, by go_num, Lib.hid hg1, Lib.hid (by rw [HTK.out, ← List.append_assoc]; exact ho1)⟩
      case measure => simp [intOf]; omega
    · obtain rfl : j = kids.length := by omega
      have hz := hor.out
      rw [List.take_length] at hz
      go_wp2
      go_end0
      exact ⟨rfl, hgr.out, hz⟩

theorem lkKeysN : ∀ N, KeysIH N
  | 0 => fun x v W0 w O G ks hN _ _ _ _ _ _ _ _ _ => by have := count_pos x; omega
  | N + 1 => fun x v W0 w O G ks hN hr hOG hOB hGB hg hGA hO hL hk => by
    obtain ⟨k, t, n, kids⟩ := x
    obtain ⟨ad, c, rfl, _, _, _, _, hd⟩ := lockIn_open hL
    rw [countL] at hN hk
    have hpr := count_pos_row kids
    rw [rightsL, Bool.and_eq_true] at hr
    obtain ⟨hb, hrr⟩ := hr
    rw [keysL]
    by_cases h1 : k = 1
    · subst h1
      have hm : kids.length = 0 := by
        unfold bareR at hb
        simp at hb
        rw [hb.1.2]; rfl
      obtain rfl := List.eq_nil_of_length_eq_zero hm
      rw [if_pos rfl, keysRow_nil, List.append_nil]
      exact lkKeys1 t n ad c W0 w O G ks hOB hg hO (by omega)
    · rw [if_neg h1, List.nil_append]
      have hl8 : kids.length ≤ 1000 := by
        unfold bareR at hb
        rw [if_neg h1] at hb
        split at hb
        · simp at hb; rw [hb.1.2]; simp
        · split at hb
          · simp only [Bool.and_eq_true, decide_eq_true_eq] at hb; omega
          · split at hb
            · simp only [Bool.and_eq_true, decide_eq_true_eq] at hb; omega
            · cases hb
      exact lkKeys2 N (lkKeysN N) k n (by simpa using h1) t kids ad c (by omega) hrr W0 w O G ks hOG hOB hGB hg hGA hO hd hl8 (by omega)
def keysP (x : LT) : List (List UInt8) := if rightL x = true then keysL x else []

set_option maxRecDepth 100000 in
set_option maxHeartbeats 4000000 in
theorem lkKeys (x : LT) (q : Nat → Prop) (v : Value) (w : World) (hL : LockIn q w x v) (hG : GOk w) :
    Calls Tryz.prog 21 #[v] w fun e w' => Below w.heap.size w w' ∧ ∃ u, e = .returned u ∧ TermsAt u (keysP x) w' := by
  have hsf := store_fn
  have hr := fun (W : World) (hgw : GL [] w W) => lkRight x q v W (lockIn_gl hgw _ _ hL) (gok_gl hG hgw (by simp))
  cases hx : rightL x with
  | false =>
    have H : Hid (keysP x = []) := by show keysP x = []; unfold keysP; rw [hx]; rfl
    rw [hx] at hr
    obtain ⟨k, t, n, kids⟩ := x
    obtain ⟨ad, c, rfl, _⟩ := lockIn_open hL
    have HR := Lib.hid hr
    clear hr hL hx hG
    go_enter Tryz.func21, Tryz.ntmps21
    go_wp2_with fail
    refine (HR.out _ (by (repeat' (first | with_reducible exact gl_refl _ _ | with_reducible assumption | with_reducible refine gl_alloc ?_ _ | with_reducible refine gl_drewN ?_ _ | with_reducible refine gl_drew ?_ | (with_reducible refine gl_setn ?_ ?_ _; · (first | exact Nat.le_refl _ | (simp; done) | (simp; omega) | omega)) | (with_reducible refine gl_seti ?_ ?_ _; · (simp; done)) | with_reducible refine gl_below (by with_reducible assumption) ?_ | with_reducible refine gl_step (by with_reducible assumption) ?_ (by first | (simp; done) | (simp; omega)) | with_reducible refine gl_grown (by with_reducible assumption) ?_ (by first | (simp; done) | (simp; omega)))))).mono ?_
    rintro e w1 ⟨rfl, hb1⟩
    go_wp2_with fail
    go_ret
    exact ⟨by (repeat' (first | with_reducible exact Below.refl _ _ | with_reducible assumption | with_reducible refine below_alloc ?_ ?_ _ | with_reducible refine Below.setCell ?_ ?_ _ | with_reducible refine Below.drew ?_ | with_reducible refine below_drewN ?_ _ | with_reducible refine below_step (by assumption) ?_ ?_ | (with_reducible refine Below.trans ?_ (Below.mono (by assumption) ?_)) | exact Nat.le_refl _ | (simp; done) | (simp; omega) | omega)), .slice none 0 0, rfl, by rw [H.out]; exact .inl ⟨none, 0, rfl, rfl⟩⟩
  | true =>
    have H : Hid (keysP x = keysL x) := by show keysP x = _; unfold keysP; rw [if_pos hx]
    rw [hx] at hr
    have hx2 := hx
    unfold rightL at hx2
    rw [Bool.and_eq_true, decide_eq_true_eq] at hx2
    have hkk := fun (W0 : World) (O G : Nat) (hgw : GL [] w W0) (hO : w.heap.size ≤ O) (hOG : O ≠ G) (hOB : O < W0.heap.size) (hGB : G < W0.heap.size) (hGA : GAt W0 G O) (hOut : OutAt W0 O W0.heap.size []) =>
      lkKeysN (countL x).toNat x v W0 W0 O G [] (by have := count_pos x; omega) hx2.2 hOG hOB hGB (gl_refl _ _) hGA hOut (lockIn_stay (p := fun b => b < w.heap.size) ⟨hgw.size, fun b hb _ => hgw.block b hb (by simp)⟩ (fun b hb _ => by omega) _ _ (lockIn_mono (fun b hb _ => hb) _ _ hL)) (by simp; omega)
    obtain ⟨k, t, n, kids⟩ := x
    obtain ⟨ad, c, rfl, _⟩ := lockIn_open hL
    have HR := Lib.hid hr
    have HK := Lib.hid hkk
    clear hr hL hx hx2 hkk hG
    go_enter Tryz.func21, Tryz.ntmps21
    go_wp2_with fail
    refine (HR.out _ (by (repeat' (first | with_reducible exact gl_refl _ _ | with_reducible assumption | with_reducible refine gl_alloc ?_ _ | with_reducible refine gl_drewN ?_ _ | with_reducible refine gl_drew ?_ | (with_reducible refine gl_setn ?_ ?_ _; · (first | exact Nat.le_refl _ | (simp; done) | (simp; omega) | omega)) | (with_reducible refine gl_seti ?_ ?_ _; · (simp; done)) | with_reducible refine gl_below (by with_reducible assumption) ?_ | with_reducible refine gl_step (by with_reducible assumption) ?_ (by first | (simp; done) | (simp; omega)) | with_reducible refine gl_grown (by with_reducible assumption) ?_ (by first | (simp; done) | (simp; omega)))))).mono ?_
    rintro e w1 ⟨rfl, hb1⟩
    have hg1 : GL [] w w1 := gl_below hb1 (gl_alloc (gl_refl _ _) _)
    have HB1 := Lib.hid (blk_below (blk_new w (.cells #[.int .u8 k, .string (bs t), .int .i64 n, .slice ad kids.length c] 25)) hb1 (by simp))
    have hs1 := hg1.size
    have f1 := blk_cell HB1.out
    have f2 := blk_free HB1.out
    have f3 := blk_lt HB1.out
    clear hb1
    go_wp2_with fail
    have hcall := HK.out ((w1.alloc (.cells #[.slice none 0 0] 32)).alloc (.cells #[.func (.func 77) #[] #[.pointer (some ⟨w1.heap.size, 0, none⟩), .pointer (some ⟨w1.heap.size + 1, 0, none⟩)]] 106)) w1.heap.size (w1.heap.size + 1) (by (repeat' (first | with_reducible exact gl_refl _ _ | with_reducible assumption | with_reducible refine gl_alloc ?_ _ | with_reducible refine gl_drewN ?_ _ | with_reducible refine gl_drew ?_ | (with_reducible refine gl_setn ?_ ?_ _; · (first | exact Nat.le_refl _ | (simp; done) | (simp; omega) | omega)) | (with_reducible refine gl_seti ?_ ?_ _; · (simp; done)) | with_reducible refine gl_below (by with_reducible assumption) ?_ | with_reducible refine gl_step (by with_reducible assumption) ?_ (by first | (simp; done) | (simp; omega)) | with_reducible refine gl_grown (by with_reducible assumption) ?_ (by first | (simp; done) | (simp; omega))))) (by omega) (by omega) (by simp; omega) (by simp) ?_ ?_
    · refine hcall.mono ?_
      rintro e w2 ⟨rfl, hg2, a2, n2, c2, ho2, hown2⟩
      clear hcall
      have g1 := blk_cell ho2
      have g2 := blk_free ho2
      have g3 := blk_lt ho2
      go_wp2_with fail
      go_ret
      rw [H.out]
      have hlen := own_len hown2
      simp only [List.nil_append] at hown2 hlen
      refine ⟨gl_to_below (gl_step (rs' := [w1.heap.size]) (w1 := w1) ?_ hg1 (by simp; omega)), .slice a2 n2 c2, rfl, ?_⟩
      · exact gl_step hg2 (gl_alloc (gl_alloc (gl_refl _ _) _) _) (by simp)
      · by_cases hz : (keysL (.mk k t n kids)).length = 0
        · exact   .inl ⟨a2, c2, by rw [hlen, hz], List.eq_nil_of_length_eq_zero hz⟩
        · obtain ⟨g, cap, hv, hgb, hgw, _, _, hcell⟩ := own_cells hown2 (by omega)
          refine .inr ⟨g, 0, cap, hv, hgw, fun i u hi => ?_⟩
          rw [Nat.zero_add]
          exact hcell i _ (by simp [hi])
    · have h := blk_new (w1.alloc (.cells #[.slice none 0 0] 32)) (.cells #[.func (.func 77) #[] #[.pointer (some ⟨w1.heap.size, 0, none⟩), .pointer (some ⟨w1.heap.size + 1, 0, none⟩)]] 106)
      rw [show (w1.alloc (.cells #[.slice none 0 0] 32)).heap.size = w1.heap.size + 1 by simp] at h
      exact h
    · exact ⟨none, 0, 0, blk_alloc (blk_new _ _) _, rfl, .inl ⟨rfl, rfl⟩⟩
end Go.Proofs.YtfmckibiblhakaaGreatDoor
