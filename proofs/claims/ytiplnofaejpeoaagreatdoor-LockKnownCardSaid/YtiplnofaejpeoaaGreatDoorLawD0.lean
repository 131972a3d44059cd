/- The law of layer 11, LockKnown: a deep lock. -/
import Derived.Test.YtiplnofaejpeoaaGreatDoorLockF
import Derived.Test.YtiplnofaejpeoaaGreatDoorLockU
import Derived.Test.YtiplnofaejpeoaaGreatDoorMSpec
import Derived.Orders
set_option maxRecDepth 100000
set_option maxHeartbeats 8000000
set_option linter.unusedSimpArgs false
set_option linter.unusedVariables false
namespace Go.Proofs.YtiplnofaejpeoaaGreatDoor
open Go.RowKit
def zbK_ (w : World) (O B : Nat) (ks : List (List UInt8)) : Prop := ∃ (ad : Option Addr) (n c : Nat), w.heap[O]? = some (.cells #[.slice ad n c] 29 (0, 0)) ∧ w.ownsRow B 22 1 (.slice ad n c) ks.length (ks.map fun k => .string (bs k))
def GAt (w : World) (G O : Nat) : Prop := w.heap[G]? = some (.cells #[.func (.func 47) #[] #[.pointer (some ⟨O, 0, none⟩), .pointer (some ⟨G, 0, none⟩)]] 61 (0, 0))
theorem zhn_ {w : World} {O B : Nat} {ks : List (List UInt8)} (h : zbK_ w O B ks) (o : Obj) : zbK_ (w.alloc o) O B ks := by
 obtain ⟨ad, n, c, h1, h2⟩ := h
 exact ⟨ad, n, c, z8_ h1 o, zar_ h2 o⟩
theorem zcS_ : zaE_ [] = [] := by rw [zaE_]
theorem zeb_ (x : LT) (r : List LT) : zaE_ (x :: r) = zaZ_ x ++ zaE_ r := by rw [zaE_]
theorem zho_ : ∀ (l m : List LT), zaE_ (l ++ m) = zaE_ l ++ zaE_ m
 | [], m => by rw [zcS_]; rfl
 | x :: r, m => by rw [List.cons_append, zeb_, zeb_, zho_ r m, List.append_assoc]
theorem zhp_ (l : List LT) (j : Nat) (h : j < l.length) : zaE_ (l.take (j + 1)) = zaE_ (l.take j) ++ zaZ_ l[j] := by
 rw [List.take_succ_eq_append_getElem h, zho_, zeb_, zcS_, List.append_nil]
mutual
theorem zfi_ : ∀ x : LT, ((zaZ_ x).length : Int) ≤ x3_ x
 | .mk k t n kids => by
   have := zec_ kids
   rw [zaZ_, x3_]
   split <;> simp <;> omega
theorem zec_ : ∀ l : List LT, ((zaE_ l).length : Int) ≤ w1_ l
 | [] => by rw [zcS_, zbF_]; simp
 | x :: r => by
   have h1 := zfi_ x
   have h2 := zec_ r
   rw [zeb_, zbe_, List.length_append]
   omega
end
theorem zhq_ (l : List LT) (j : Nat) (h : j < l.length) : w1_ (l.take j) + x3_ l[j] ≤ w1_ l := by
 have e : l = l.take j ++ (l[j] :: l.drop (j + 1)) := by rw [← List.drop_eq_getElem_cons h, List.take_append_drop]
 have happ : ∀ a b : List LT, w1_ (a ++ b) = w1_ a + w1_ b := by
  intro a b
  induction a with
  | nil => rw [zbF_]; simp
  | cons x r ih => rw [List.cons_append, zbe_, zbe_, ih]; omega
 have h2 := congrArg w1_ e
 rw [happ, zbe_] at h2
 have := zbt_ (l.drop (j + 1))
 omega
theorem zhr_ {w : World} {base e size n : Nat} {v : Value} {xs : List Value} (h : w.ownsRow base e size v n xs) : ∀ g, v.ownBlock = some g → g < w.heap.size := by
 intro g hg
 rcases h.2 with ⟨rfl, _⟩ | ⟨g', cap, cur, rfl, _, h', _⟩
 · simp [Value.ownBlock] at hg
 · simp [Value.ownBlock] at hg
   subst hg
   exact z0_ h'
def zhs_ (N : Nat) : Prop := ∀ (x : LT) (v : Value) (W0 w : World) (O G : Nat) (ks : List (List UInt8)), x3_ x ≤ N → q1_ x = true → O ≠ G → O < W0.heap.size → G < W0.heap.size → GL [O] W0 w → GAt W0 G O → zbK_ w O W0.heap.size ks → y2_ (fun b => b ≠ O) W0 x v → (ks.length : Int) + x3_ x ≤ 1000 →
 Calls Tryz.prog 47 #[v, .pointer (some ⟨O, 0, none⟩), .pointer (some ⟨G, 0, none⟩)] w fun e w' => e = .returned (.tuple #[]) ∧ GL [O] W0 w' ∧ zbK_ w' O W0.heap.size (ks ++ zaZ_ x)
theorem zll_ (t : List UInt8) (n : Int) (ad : Option Addr) (c : Nat) (W0 w : World) (O G : Nat) (ks : List (List UInt8)) (hOB : O < W0.heap.size) (hg : GL [O] W0 w) (hO : zbK_ w O W0.heap.size ks) (hk : ks.length ≤ 1000) :
  Calls Tryz.prog 47 #[.agg #[.int .u8 1, .string (bs t), .int .i64 n, .slice ad 0 c], .pointer (some ⟨O, 0, none⟩), .pointer (some ⟨G, 0, none⟩)] w fun e w' => e = .returned (.tuple #[]) ∧ GL [O] W0 w' ∧ zbK_ w' O W0.heap.size (ks ++ [t]) := by
 obtain ⟨a, m, cp, hob, hown⟩ := hO
 obtain ⟨t0, ht0, ht1, ht2, ht3⟩ := info_parts Tryz.infoTerm
 have hge := zal_ hown
 have hlt := zhr_ hown
 have f1 := z2_ hob
 have f2 := z5_ hob
 have f3 := z0_ hob
 have HO := Lib.hid hob
 have hsz := hg.size
 clear hob
 go_enter Tryz.func47, Tryz.ntmps47
 go_wp2_with (at_builtin; go_must (refine wpList_append_own _ rfl _ _ 29 rfl W0.heap.size 22 t0 (.string ByteArray.empty) 1 16 Tryz.underlying29 ht0 ht1 ht2 ht3 rfl de_ _ ks.length _ rfl (zar_ (zar_ hown _) _) ⟨w.heap.size + 1, 0, none⟩ 1 1 [.string (bs t)] rfl rfl ?c1 ?c2 ?c3 ?c4 ?c5 ?_; (case c1 => exact zcw_ si_); (case c2 => exact one1 rfl); (case c3 => (unfold maxLen; omega)); (case c4 => omega); (case c5 => (simp; omega)); (intro v' w4 hown4 hgr4 _); (obtain ⟨ad4, n4, cp4, hv4⟩ := zai_ hown4); (subst hv4); (have HO4 := Lib.hid (j1_ (z8_ (z8_ HO.out _) _) hgr4 (by show some O ≠ (Value.slice a m cp).ownBlock; intro h; have := hge O h.symm; omega))); (have g1 := z2_ HO4.out); (have g2 := z5_ HO4.out); (have HB4 := Lib.hid (j1_ (z8_ (z3_ w (.cells #[.int .u8 1, .string (bs t), .int .i64 n, .slice ad 0 c] 25)) _) hgr4 (by show some w.heap.size ≠ (Value.slice a m cp).ownBlock; intro h; have := hlt _ h.symm; omega))); (have g3 := z2_ HB4.out); (have g4 := z5_ HB4.out); (have hneO : w.heap.size ≠ O := by omega)))
 have hfin : GL [O] W0 (w4.setCell ⟨O, 0, none⟩ (.slice ad4 n4 cp4)) ∧ zbK_ (w4.setCell ⟨O, 0, none⟩ (.slice ad4 n4 cp4)) O W0.heap.size (ks ++ [t]) := by
  refine ⟨x6_ (zaL_ hgr4 (z6_ (z6_ hg _) _) (fun r hr => .inr (hge r hr))) (.inl si_) _, ad4, n4, cp4, x7_ HO4.out 0 _, ?_⟩
  have h5 := w3_ hown4 (p := ⟨O, 0, none⟩) (fun h => by have := zal_ hown4 O h.symm; omega) (.slice ad4 n4 cp4)
  simpa using h5
 have HFIN := Lib.hid hfin
 clear hfin
 go_wp2
 go_loopw [5, 17] (fun _ iv wr => iv = .int .i64 0 ∧ Hid (wr = w4.setCell ⟨O, 0, none⟩ (.slice ad4 n4 cp4))) (fun _ _ _ => 0)
 case atStart => exact ⟨rfl, rfl⟩
 case round =>
  obtain ⟨rfl, hwr⟩ := hrel
  have hwr2 := hwr.out
  subst hwr2
  go_wp2
  go_end0
  exact ⟨rfl, HFIN.out.1, HFIN.out.2⟩
theorem zlm_ (N : Nat) (ih : zhs_ N) (k n : Int) (hk1 : (k == 1) = false) (t : List UInt8) (kids : List LT) (ad : Option Addr) (c : Nat) (hcN : w1_ kids ≤ N) (hrr : w6_ kids = true) (W0 w : World) (O G : Nat) (ks : List (List UInt8)) (hOG : O ≠ G) (hOB : O < W0.heap.size) (hGB : G < W0.heap.size) (hg : GL [O] W0 w) (hGA : GAt W0 G O) (hO : zbK_ w O W0.heap.size ks)
  (hd : kids = [] ∨ ∃ b o, ad = some ⟨b, o, none⟩ ∧ b < W0.heap.size ∧ b ≠ O ∧ x2_ (fun b => b ≠ O) W0 kids b o) (hkn : kids.length ≤ 1000) (hk : (ks.length : Int) + w1_ kids ≤ 1000) :
  Calls Tryz.prog 47 #[.agg #[.int .u8 k, .string (bs t), .int .i64 n, .slice ad kids.length c], .pointer (some ⟨O, 0, none⟩), .pointer (some ⟨G, 0, none⟩)] w fun e w' => e = .returned (.tuple #[]) ∧ GL [O] W0 w' ∧ zbK_ w' O W0.heap.size (ks ++ zaE_ kids) := by
 have HD := Lib.hid hd
 have IH := Lib.hid ih
 have HR := Lib.hid hrr
 have HGA := Lib.hid hGA
 have HO := Lib.hid hO
 have hsz := hg.size
 clear hd ih hrr hGA hO
 go_enter Tryz.func47, Tryz.ntmps47
 go_wp2
 go_loopw [5, 17] (fun _ iv wr => ∃ j : Nat, j ≤ kids.length ∧ iv = .int .i64 j ∧ Hid (GL [O] W0 wr) ∧ Hid (zbK_ wr O W0.heap.size (ks ++ zaE_ (kids.take j)))) (fun _ iv _ => kids.length - (intOf iv).toNat)
 case atStart => exact ⟨0, by omega, rfl, Lib.hid (z6_ hg _), Lib.hid (by rw [List.take_zero, zcS_, List.append_nil]; exact zhn_ HO.out _)⟩
 case round =>
  obtain ⟨j, hj, rfl, hgr, hor⟩ := hrel
  by_cases hlt : j < kids.length
  · have i3 : (j : Int) < kids.length := by omega
    rcases HD.out with h0 | ⟨b, o, rfl, hb, hbO, hrow⟩
    · subst h0; simp at hlt
    have hst : Stay (fun b => b ≠ O) W0 wr := ⟨hgr.out.size, fun b hb hp => hgr.out.block b hb (by simpa using hp)⟩
    obtain ⟨u0, u1, u2, u3, hx0, _, _, _, _⟩ := zao_ kids b o j kids[j] hrow (List.getElem?_eq_getElem hlt)
    obtain ⟨z0, z1, z2, z3, hx, c0, c1, c2, c3⟩ := zao_ kids b o j kids[j] (zbE_ hst (fun _ _ h => h) kids b o hb hbO hrow) (List.getElem?_eq_getElem hlt)
    obtain ⟨y0, y1, y2, y3, hy, d0, d1, d2, d3⟩ := zao_ kids b o j kids[j] hrow (List.getElem?_eq_getElem hlt)
    have hcell : ∀ i, wr.cell? ⟨b, i, none⟩ = W0.cell? ⟨b, i, none⟩ := fun i => by simp only [World.cell?, hst.2 b hb hbO]
    rw [hcell] at c0 c1 c2 c3
    obtain rfl := Option.some.inj (c0.symm.trans d0)
    obtain rfl := Option.some.inj (c1.symm.trans d1)
    obtain rfl := Option.some.inj (c2.symm.trans d2)
    obtain rfl := Option.some.inj (c3.symm.trans d3)
    rw [← hcell] at c0 c1 c2 c3
    obtain ⟨ku, nu, tu, au, mu, cu, rfl, rfl, rfl, rfl⟩ := zaA_ hy
    clear d0 d1 d2 d3 hx0 hx hcell
    have hcx : x3_ kids[j] ≤ N := by have := zaN_ kids kids[j] (List.getElem_mem hlt); omega
    have hrx := zb0_ kids kids[j] HR.out (List.getElem_mem hlt)
    have htk := zhp_ kids j hlt
    have hct := zhq_ kids j hlt
    have hkl := zec_ (kids.take j)
    have hcall := fun (W : World) (hW : GL [O] W0 W) (hOW : zbK_ W O W0.heap.size (ks ++ zaE_ (kids.take j))) => IH.out kids[j] _ W0 W O G _ hcx hrx hOG hOB hGB hW HGA.out hOW hy so_
    have HTK := Lib.hid htk
    generalize zaZ_ kids[j] = kx at *
    have HC := Lib.hid hcall
    have hG1 := y7_ HGA.out hgr.out (by simp; exact fun h => hOG h.symm)
    have f1 := z2_ hG1
    have f2 := z5_ hG1
    have f3 := z0_ hG1
    have hszr := hgr.out.size
    clear hcall hy hrow hcx hrx htk HD hG1 hst hct hkl
    go_wp2_with fail
    refine (HC.out _ (z6_ hgr.out _) (zhn_ hor.out _)).mono ?_
    rintro e w1 ⟨rfl, hg1, ho1⟩
    go_wp2_with fail
    go_roundw
    case rel => exact ⟨j + 1, by omega, by go_num, Lib.hid hg1, Lib.hid (by rw [HTK.out, ← List.append_assoc]; exact ho1)⟩
    case measure => simp [intOf]; omega
  · obtain rfl : j = kids.length := by omega
    have hz := hor.out
    rw [List.take_length] at hz
    go_wp2
    go_end0
    exact ⟨rfl, hgr.out, hz⟩
theorem zht_ : ∀ N, zhs_ N
 | 0 => fun x v W0 w O G ks hN _ _ _ _ _ _ _ _ _ => by have := j5_ x; omega
 | N + 1 => fun x v W0 w O G ks hN hr hOG hOB hGB hg hGA hO hL hk => by
   obtain ⟨k, t, n, kids⟩ := x
   obtain ⟨ad, c, rfl, _, _, _, _, hd⟩ := y3_ hL
   rw [x3_] at hN hk
   have hpr := zbt_ kids
   rw [q1_, Bool.and_eq_true] at hr
   obtain ⟨hb, hrr⟩ := hr
   rw [zaZ_]
   by_cases h1 : k = 1
   · subst h1
     have hm : kids.length = 0 := by
      unfold y9_ at hb
      simp at hb
      rw [hb.1.2]; rfl
     obtain rfl := List.eq_nil_of_length_eq_zero hm
     rw [if_pos rfl, zcS_, List.append_nil]
     exact zll_ t n ad c W0 w O G ks hOB hg hO om_
   · rw [if_neg h1, List.nil_append]
     have hl8 : kids.length ≤ 1000 := by
      unfold y9_ at hb
      rw [if_neg h1] at hb
      split at hb
      · simp at hb; rw [hb.1.2]; simp
      · split at hb
        · simp only [Bool.and_eq_true, decide_eq_true_eq] at hb; omega
        · split at hb
          · simp only [Bool.and_eq_true, decide_eq_true_eq] at hb; omega
          · cases hb
     exact zlm_ N (zht_ N) k n (by simpa using h1) t kids ad c om_ hrr W0 w O G ks hOG hOB hGB hg hGA hO hd hl8 om_
def zaD_ (x : LT) : List (List UInt8) := if w7_ x = true then zaZ_ x else []
theorem zhu_ (x : LT) (q : Nat → Prop) (v : Value) (w : World) (hL : y2_ q w x v) (hG : GOk w) :
  Calls Tryz.prog 26 #[v] w fun e w' => Below w.heap.size w w' ∧ ∃ u, e = .returned u ∧ x5_ u (zaD_ x) w' := by
 have hsf := zcC_
 have hr := fun (W : World) (hgw : GL [] w W) => zbf_ x q v W (z7_ hgw _ _ hL) (x4_ hG hgw si_)
 cases hx : w7_ x with
 | false =>
   have H : Hid (zaD_ x = []) := by show zaD_ x = []; unfold zaD_; rw [hx]; rfl
   rw [hx] at hr
   obtain ⟨k, t, n, kids⟩ := x
   obtain ⟨ad, c, rfl, _⟩ := y3_ hL
   have HR := Lib.hid hr
   clear hr hL hx hG
   go_enter Tryz.func26, Tryz.ntmps26
   go_wp2_with fail
   refine (HR.out _ gl_).mono ?_
   rintro e w1 ⟨rfl, hb1⟩
   go_wp2_with fail
   go_ret
   exact ⟨bl_, .slice none 0 0, rfl, by rw [H.out]; exact .inl ⟨none, 0, rfl, rfl⟩⟩
 | true =>
   have H : Hid (zaD_ x = zaZ_ x) := by show zaD_ x = _; unfold zaD_; rw [if_pos hx]
   rw [hx] at hr
   have hx2 := hx
   unfold w7_ at hx2
   rw [Bool.and_eq_true, decide_eq_true_eq] at hx2
   have hkk := fun (W0 : World) (O G : Nat) (hgw : GL [] w W0) (hO : w.heap.size ≤ O) (hOG : O ≠ G) (hOB : O < W0.heap.size) (hGB : G < W0.heap.size) (hGA : GAt W0 G O) (hOut : zbK_ W0 O W0.heap.size []) =>
    zht_ (x3_ x).toNat x v W0 W0 O G [] (by have := j5_ x; omega) hx2.2 hOG hOB hGB (z1_ _ _) hGA hOut (za5_ (p := fun b => b < w.heap.size) ⟨hgw.size, fun b hb _ => hgw.block b hb si_⟩ (fun b hb _ => by omega) _ _ (q9_ (fun b hb _ => hb) _ _ hL)) so_
   obtain ⟨k, t, n, kids⟩ := x
   obtain ⟨ad, c, rfl, _⟩ := y3_ hL
   have HR := Lib.hid hr
   have HK := Lib.hid hkk
   clear hr hL hx hx2 hkk hG
   go_enter Tryz.func26, Tryz.ntmps26
   go_wp2_with fail
   refine (HR.out _ gl_).mono ?_
   rintro e w1 ⟨rfl, hb1⟩
   have hg1 : GL [] w w1 := z4_ hb1 (z6_ (z1_ _ _) _)
   have HB1 := Lib.hid (z9_ (z3_ w (.cells #[.int .u8 k, .string (bs t), .int .i64 n, .slice ad kids.length c] 25)) hb1 si_)
   have hs1 := hg1.size
   have f1 := z2_ HB1.out
   have f2 := z5_ HB1.out
   have f3 := z0_ HB1.out
   clear hb1
   go_wp2_with fail
   have hcall := HK.out ((w1.alloc (.cells #[.slice none 0 0] 29)).alloc (.cells #[.func (.func 47) #[] #[.pointer (some ⟨w1.heap.size, 0, none⟩), .pointer (some ⟨w1.heap.size + 1, 0, none⟩)]] 61)) w1.heap.size (w1.heap.size + 1) gl_ om_ om_ so_ si_ ?_ ?_
   · refine hcall.mono ?_
     rintro e w2 ⟨rfl, hg2, a2, n2, c2, ho2, hown2⟩
     clear hcall
     have g1 := z2_ ho2
     have g2 := z5_ ho2
     have g3 := z0_ ho2
     go_wp2_with fail
     go_ret
     rw [H.out]
     have hlen := zbm_ hown2
     simp only [List.nil_append] at hown2 hlen
     refine ⟨x0_ (x1_ (rs' := [w1.heap.size]) (w1 := w1) ?_ hg1 so_), .slice a2 n2 c2, rfl, ?_⟩
     · exact x1_ hg2 (z6_ (z6_ (z1_ _ _) _) _) si_
     · by_cases hz : (zaZ_ (.mk k t n kids)).length = 0
       · exact   .inl ⟨a2, c2, by rw [hlen, hz], List.eq_nil_of_length_eq_zero hz⟩
       · obtain ⟨g, cap, hv, hgb, hgw, _, _, hcell⟩ := zaT_ hown2 om_
         refine .inr ⟨g, 0, cap, hv, hgw, fun i u hi => ?_⟩
         rw [Nat.zero_add]
         exact hcell i _ (by simp [hi])
   · have h := z3_ (w1.alloc (.cells #[.slice none 0 0] 29)) (.cells #[.func (.func 47) #[] #[.pointer (some ⟨w1.heap.size, 0, none⟩), .pointer (some ⟨w1.heap.size + 1, 0, none⟩)]] 61)
     rw [show (w1.alloc (.cells #[.slice none 0 0] 29)).heap.size = w1.heap.size + 1 by simp] at h
     exact h
   · exact ⟨none, 0, 0, z8_ (z3_ _ _) _, rfl, .inl ⟨rfl, rfl⟩⟩
theorem zln_ (l : List LT) : zaj_ [] l = true := by rw [zaj_]
theorem zlo_ (x y : LT) (r s : List LT) : zaj_ (x :: r) (y :: s) = (zbS_ x y && zaj_ r s) := by rw [zaj_]
theorem zlp_ (k n k2 n2 : Int) (t t2 : List UInt8) (m m2 : Nat) (ad ad2 : Option Addr) (c c2 : Nat) (h : (k != k2) = true) (w : World) :
  Calls Tryz.prog 28 #[.agg #[.int .u8 k, .string (bs t), .int .i64 n, .slice ad m c], .agg #[.int .u8 k2, .string (bs t2), .int .i64 n2, .slice ad2 m2 c2]] w fun e w' => e = .returned (.bool false) ∧ Below w.heap.size w w' := by
 go_enter Tryz.func28, Tryz.ntmps28
 go_wp2
 go_ret
 exact ⟨rfl, bl_⟩
theorem zlq_ (k n k2 n2 : Int) (t t2 : List UInt8) (m m2 : Nat) (ad ad2 : Option Addr) (c c2 : Nat) (h : ¬ t = t2) (h2 : (t != t2) = true) (w : World) :
  Calls Tryz.prog 28 #[.agg #[.int .u8 k, .string (bs t), .int .i64 n, .slice ad m c], .agg #[.int .u8 k, .string (bs t2), .int .i64 n2, .slice ad2 m2 c2]] w fun e w' => e = .returned (.bool false) ∧ Below w.heap.size w w' := by
 go_enter Tryz.func28, Tryz.ntmps28
 go_wp2
 go_ret
 exact ⟨rfl, bl_⟩
theorem zlr_ (k n k2 n2 : Int) (t t2 : List UInt8) (m m2 : Nat) (ad ad2 : Option Addr) (c c2 : Nat) (h : (n != n2) = true) (w : World) :
  Calls Tryz.prog 28 #[.agg #[.int .u8 k, .string (bs t), .int .i64 n, .slice ad m c], .agg #[.int .u8 k, .string (bs t), .int .i64 n2, .slice ad2 m2 c2]] w fun e w' => e = .returned (.bool false) ∧ Below w.heap.size w w' := by
 go_enter Tryz.func28, Tryz.ntmps28
 go_wp2
 go_ret
 exact ⟨rfl, bl_⟩
theorem zls_ (k n k2 n2 : Int) (t t2 : List UInt8) (m m2 : Nat) (ad ad2 : Option Addr) (c c2 : Nat) (h : ((m : Int) != (m2 : Int)) = true) (w : World) :
  Calls Tryz.prog 28 #[.agg #[.int .u8 k, .string (bs t), .int .i64 n, .slice ad m c], .agg #[.int .u8 k, .string (bs t), .int .i64 n, .slice ad2 m2 c2]] w fun e w' => e = .returned (.bool false) ∧ Below w.heap.size w w' := by
 go_enter Tryz.func28, Tryz.ntmps28
 go_wp2
 go_ret
 exact ⟨rfl, bl_⟩
def zhv_ (N : Nat) : Prop := ∀ (x y : LT) (p q : Nat → Prop) (u v : Value) (w : World), x3_ x ≤ N → y2_ p w x u → y2_ q w y v →
 Calls Tryz.prog 28 #[u, v] w fun e w' => e = .returned (.bool (zbS_ x y)) ∧ Below w.heap.size w w'
theorem zlt_ (N : Nat) (ih : zhv_ N) (k n : Int) (t : List UInt8) (kids kids2 : List LT) (ad ad2 : Option Addr) (c c2 : Nat) (p q : Nat → Prop) (hl : kids.length = kids2.length) (hkn : kids.length ≤ 9000000000000000000) (hcN : w1_ kids ≤ N) (w : World)
  (hd : kids = [] ∨ ∃ b o, ad = some ⟨b, o, none⟩ ∧ b < w.heap.size ∧ p b ∧ x2_ p w kids b o) (hd2 : kids2 = [] ∨ ∃ b o, ad2 = some ⟨b, o, none⟩ ∧ b < w.heap.size ∧ q b ∧ x2_ q w kids2 b o) :
  Calls Tryz.prog 28 #[.agg #[.int .u8 k, .string (bs t), .int .i64 n, .slice ad kids.length c], .agg #[.int .u8 k, .string (bs t), .int .i64 n, .slice ad2 kids2.length c2]] w fun e w' => e = .returned (.bool (zaj_ kids kids2)) ∧ Below w.heap.size w w' := by
 have HD := Lib.hid hd
 have HD2 := Lib.hid hd2
 have IH := Lib.hid ih
 have HL := Lib.hid hl
 have b1 : ((kids.length : Int) != (kids2.length : Int)) = false := by simp; omega
 clear hd hd2 ih hl
 go_enter Tryz.func28, Tryz.ntmps28
 go_wp2
 go_loopw [5] (fun iv wr => ∃ j : Nat, j ≤ kids.length ∧ iv = .int .i64 j ∧ Hid (wr.heap[w.heap.size]? = some (.cells #[.int .u8 k, .string (bs t), .int .i64 n, .slice ad kids.length c] 25 (0, 0))) ∧ Hid (wr.heap[w.heap.size + 1]? = some (.cells #[.int .u8 k, .string (bs t), .int .i64 n, .slice ad2 kids2.length c2] 25 (0, 0))) ∧ Hid (GL [] w wr) ∧ Hid (zaj_ (kids.drop j) (kids2.drop j) = zaj_ kids kids2)) (fun iv _ => kids.length - (intOf iv).toNat)
 case atStart =>
  refine ⟨0, by omega, rfl, Lib.hid (z8_ (z3_ w (.cells #[.int .u8 k, .string (bs t), .int .i64 n, .slice ad kids.length c] 25)) (.cells #[.int .u8 k, .string (bs t), .int .i64 n, .slice ad2 kids2.length c2] 25)), ?_, Lib.hid gl_, Lib.hid rfl⟩
  have h := z3_ (w.alloc (.cells #[.int .u8 k, .string (bs t), .int .i64 n, .slice ad kids.length c] 25)) (.cells #[.int .u8 k, .string (bs t), .int .i64 n, .slice ad2 kids2.length c2] 25)
  rw [show (w.alloc (.cells #[.int .u8 k, .string (bs t), .int .i64 n, .slice ad kids.length c] 25)).heap.size = w.heap.size + 1 by simp] at h
  exact h
 case round =>
  obtain ⟨j, hj, rfl, H1, H2, hgr, hpr⟩ := hrel
  have f1 := z2_ H1.out
  have e1 := z5_ H1.out
  have f2 := z2_ H2.out
  have e2 := z5_ H2.out
  by_cases hlt : j < kids.length
  · have i3 : (j : Int) < kids.length := by omega
    have i4 : (j : Int) < kids2.length := by have := HL.out; omega
    have hlt2 : j < kids2.length := by have := HL.out; omega
    rcases HD.out with h0 | ⟨b, o, rfl, hb, hqb, hrow⟩
    · subst h0; simp at hlt
    rcases HD2.out with h0 | ⟨b2, o2, rfl, hb2, hqb2, hrow2⟩
    · subst h0; simp at hlt2
    obtain ⟨u0, u1, u2, u3, hx, c0, c1, c2', c3⟩ := zao_ kids b o j kids[j] (zaM_ hgr.out kids b o hb hqb hrow) (List.getElem?_eq_getElem hlt)
    obtain ⟨v0, v1, v2, v3, hy, d0, d1, d2, d3⟩ := zao_ kids2 b2 o2 j kids2[j] (zaM_ hgr.out kids2 b2 o2 hb2 hqb2 hrow2) (List.getElem?_eq_getElem hlt2)
    obtain ⟨ku, nu, tu, au, mu, cu, rfl, rfl, rfl, rfl⟩ := zaA_ hx
    obtain ⟨kv, nv, tv, av, mv, cv, rfl, rfl, rfl, rfl⟩ := zaA_ hy
    have hcx : x3_ kids[j] ≤ N := by have := zaN_ kids kids[j] (List.getElem_mem hlt); omega
    have hcall := fun (W : World) (hg : GL [] wr W) => IH.out kids[j] kids2[j] p q _ _ W hcx (z7_ hg _ _ hx) (z7_ hg _ _ hy)
    have hp2 := hpr.out
    rw [List.drop_eq_getElem_cons hlt, List.drop_eq_getElem_cons hlt2, zlo_] at hp2
    generalize zbS_ kids[j] kids2[j] = z at *
    have HC := Lib.hid hcall
    have hbk1 := hgr.out.size
    clear hcall hx hy hrow hrow2 hcx hpr HD HD2
    cases z with
    | false =>
      have HP : Hid (zaj_ kids kids2 = false) := by show _ = _; rw [← hp2]; rfl
      clear hp2
      go_wp2
      go_region_held3 (fun w' => w'.cell? ⟨w.heap.size, 3, none⟩ = some (.slice (some ⟨b, o, none⟩) kids.length c) ∧ w'.cell? ⟨w.heap.size + 1, 3, none⟩ = some (.slice (some ⟨b2, o2, none⟩) kids2.length c2) ∧ w'.cell? ⟨b, o + j * 4, none⟩ = some (.int .u8 ku) ∧ w'.cell? ⟨b, o + j * 4 + 1, none⟩ = some (.string (bs tu)) ∧ w'.cell? ⟨b, o + j * 4 + 2, none⟩ = some (.int .i64 nu) ∧ w'.cell? ⟨b, o + j * 4 + 3, none⟩ = some (.slice au mu cu) ∧ w'.cell? ⟨b2, o2 + j * 4, none⟩ = some (.int .u8 kv) ∧ w'.cell? ⟨b2, o2 + j * 4 + 1, none⟩ = some (.string (bs tv)) ∧ w'.cell? ⟨b2, o2 + j * 4 + 2, none⟩ = some (.int .i64 nv) ∧ w'.cell? ⟨b2, o2 + j * 4 + 3, none⟩ = some (.slice av mv cv))
       (first | go_keep | (go_split_ands; refine ⟨?_, ?_, ?_, ?_, ?_, ?_, ?_, ?_, ?_, ?_⟩ <;> exact (hbk.cell (World.block_lt_of_cell? _ _ as_)).trans as_))
       ((go_at_call 28; refine (HC.out _ (by first | exact z1_ _ _ | exact zam_ (z1_ _ _) | exact za8_ (z1_ _ _) _)).mono ?_; rintro e wk ⟨rfl, hbk⟩; have hgk : GL [] w wk := z4_ hbk (by have := hgr.out; exact gl_)))
      all_goals
       go_wp2
       go_ret
       exact ⟨by rw [HP.out]; rfl, x0_ (by have := hgr.out; exact gl_)⟩
    | true =>
      have HP : Hid (zaj_ (kids.drop (j + 1)) (kids2.drop (j + 1)) = zaj_ kids kids2) := by show _ = _; rw [← hp2]; simp
      clear hp2
      go_wp2
      go_region_held3 (fun w' => w'.cell? ⟨w.heap.size, 3, none⟩ = some (.slice (some ⟨b, o, none⟩) kids.length c) ∧ w'.cell? ⟨w.heap.size + 1, 3, none⟩ = some (.slice (some ⟨b2, o2, none⟩) kids2.length c2) ∧ w'.cell? ⟨b, o + j * 4, none⟩ = some (.int .u8 ku) ∧ w'.cell? ⟨b, o + j * 4 + 1, none⟩ = some (.string (bs tu)) ∧ w'.cell? ⟨b, o + j * 4 + 2, none⟩ = some (.int .i64 nu) ∧ w'.cell? ⟨b, o + j * 4 + 3, none⟩ = some (.slice au mu cu) ∧ w'.cell? ⟨b2, o2 + j * 4, none⟩ = some (.int .u8 kv) ∧ w'.cell? ⟨b2, o2 + j * 4 + 1, none⟩ = some (.string (bs tv)) ∧ w'.cell? ⟨b2, o2 + j * 4 + 2, none⟩ = some (.int .i64 nv) ∧ w'.cell? ⟨b2, o2 + j * 4 + 3, none⟩ = some (.slice av mv cv))
       (first | go_keep | (go_split_ands; refine ⟨?_, ?_, ?_, ?_, ?_, ?_, ?_, ?_, ?_, ?_⟩ <;> exact (hbk.cell (World.block_lt_of_cell? _ _ as_)).trans as_))
       ((go_at_call 28; refine (HC.out _ (by first | exact z1_ _ _ | exact zam_ (z1_ _ _) | exact za8_ (z1_ _ _) _)).mono ?_; rintro e wk ⟨rfl, hbk⟩; have hgk : GL [] wr wk := z4_ hbk gl_))
      all_goals
       go_wp2
       go_roundw
       case rel => exact ⟨j + 1, by omega, by go_num, Lib.hid (by have := y7_ H1.out hgk si_; exact this), Lib.hid (by have := y7_ H2.out hgk si_; exact this), Lib.hid (x1_ hgk hgr.out si_), HP⟩
       case measure => simp [intOf]; omega
  · obtain rfl : j = kids.length := by omega
    have hz := hpr.out
    rw [List.drop_length, zln_] at hz
    have HI := Lib.hid hz
    have i4 : decide ((kids.length : Int) < kids.length) = false := by simp
    clear hz hpr
    go_wp2
    go_ret
    exact ⟨by rw [← HI.out]; rfl, x0_ hgr.out⟩
theorem zhw_ : ∀ N, zhv_ N
 | 0 => fun x y p q u v w hN _ _ => by have := j5_ x; omega
 | N + 1 => fun x y p q u v w hN hx hy => by
   obtain ⟨k, t, n, kids⟩ := x
   obtain ⟨k2, t2, n2, kids2⟩ := y
   obtain ⟨ad, c, rfl, _, _, _, hkn, hd⟩ := y3_ hx
   obtain ⟨ad2, c2, rfl, _, _, _, _, hd2⟩ := y3_ hy
   rw [x3_] at hN
   rw [zbS_]
   by_cases h1 : k = k2
   · subst h1
     by_cases h2 : t = t2
     · subst h2
       by_cases h3 : n = n2
       · subst h3
         by_cases h4 : kids.length = kids2.length
         · rw [show (decide (k = k) && decide (t = t) && decide (n = n) && decide (kids.length = kids2.length) && zaj_ kids kids2) = zaj_ kids kids2 by simp [h4]]
           exact zlt_ N (zhw_ N) k n t kids kids2 ad ad2 c c2 p q h4 hkn om_ w hd hd2
         · rw [show (decide (k = k) && decide (t = t) && decide (n = n) && decide (kids.length = kids2.length) && zaj_ kids kids2) = false by simp [h4]]
           exact zls_ k n k n t t _ _ ad ad2 c c2 so_ w
       · rw [show (decide (k = k) && decide (t = t) && decide (n = n2) && decide (kids.length = kids2.length) && zaj_ kids kids2) = false by simp [h3]]
         exact zlr_ k n k n2 t t _ _ ad ad2 c c2 (by simpa using h3) w
     · rw [show (decide (k = k) && decide (t = t2) && decide (n = n2) && decide (kids.length = kids2.length) && zaj_ kids kids2) = false by simp [h2]]
       exact zlq_ k n k n2 t t2 _ _ ad ad2 c c2 h2 (by simpa using h2) w
   · rw [show (decide (k = k2) && decide (t = t2) && decide (n = n2) && decide (kids.length = kids2.length) && zaj_ kids kids2) = false by simp [h1]]
     exact zlp_ k n k2 n2 t t2 _ _ ad ad2 c c2 (by simpa using h1) w
theorem zah_ (x y : LT) (p q : Nat → Prop) (u v : Value) (w : World) (hx : y2_ p w x u) (hy : y2_ q w y v) :
  Calls Tryz.prog 28 #[u, v] w fun e w' => e = .returned (.bool (zbS_ x y)) ∧ Below w.heap.size w w' :=
 zhw_ (x3_ x).toNat x y p q u v w (by have := j5_ x; omega) hx hy
def zhx_ (N : Nat) (top : Int) : Prop := ∀ (x : LT) (p : Nat → Prop) (u : Value) (w : World), x3_ x ≤ N → y2_ p w x u →
 Calls Tryz.prog 21 #[u, .int .i64 top] w fun e w' => Below w.heap.size w w' ∧ ∃ z : Int, e = .returned (.int .i64 z) ∧ 0 ≤ z ∧ z ≤ top + 1
theorem zlu_ (N : Nat) (top : Int) (ih : zhx_ N top) (h0 : 0 ≤ top) (h1 : top ≤ 1000) (k n : Int) (t : List UInt8) (kids : List LT) (ad : Option Addr) (c : Nat) (p : Nat → Prop) (ht : t.length ≤ 9000000000000000000) (hkn : kids.length ≤ 9000000000000000000) (hcN : w1_ kids ≤ N) (w : World)
  (hd : kids = [] ∨ ∃ b o, ad = some ⟨b, o, none⟩ ∧ b < w.heap.size ∧ p b ∧ x2_ p w kids b o) :
  Calls Tryz.prog 21 #[.agg #[.int .u8 k, .string (bs t), .int .i64 n, .slice ad kids.length c], .int .i64 top] w fun e w' => Below w.heap.size w w' ∧ ∃ z : Int, e = .returned (.int .i64 z) ∧ 0 ≤ z ∧ z ≤ top + 1 := by
 have HD := Lib.hid hd
 have IH := Lib.hid ih
 obtain ⟨z, hz⟩ : ∃ z : Int, (t.length : Int).tdiv 64 = z := ⟨_, rfl⟩
 have hz0 : 0 ≤ z ∧ z ≤ 200000000000000000 := by
  rw [Int.tdiv_eq_ediv_of_nonneg om_] at hz
  omega
 clear hd ih
 go_enter Tryz.func21, Tryz.ntmps21
 go_wp2
 go_loopw [5, 6] (fun nv iv wr => ∃ (j : Nat) (s : Int), j ≤ kids.length ∧ iv = .int .i64 j ∧ nv = .int .i64 s ∧ 0 ≤ s ∧ s ≤ 300000000000000000 ∧ Hid (wr.heap[w.heap.size]? = some (.cells #[.int .u8 k, .string (bs t), .int .i64 n, .slice ad kids.length c] 25 (0, 0))) ∧ Hid (GL [] w wr)) (fun _ iv _ => kids.length - (intOf iv).toNat)
 case atStart => exact ⟨0, 1 + z, by omega, rfl, by first | rfl | (rw [← hz]; rfl) | (congr; omega), by omega, by omega, Lib.hid (z3_ w (.cells #[.int .u8 k, .string (bs t), .int .i64 n, .slice ad kids.length c] 25)), Lib.hid gl_⟩
 case round =>
  obtain ⟨j, s, hj, rfl, rfl, hs0, hs1, H1, hgr⟩ := hrel
  have f1 := z2_ H1.out
  have e1 := z5_ H1.out
  have fin : ∀ (W : World), GL [] w W → ∀ e : Ending, e = .returned (.int .i64 (min s (top + 1))) → Below w.heap.size w W ∧ ∃ z : Int, e = .returned (.int .i64 z) ∧ 0 ≤ z ∧ z ≤ top + 1 := fun W hW e he => ⟨x0_ hW, _, he, by omega, by omega⟩
  have HF := Lib.hid fin
  clear fin
  by_cases hlt : j < kids.length
  · have i3 : (j : Int) < kids.length := by omega
    by_cases hst : s ≤ top
    · rcases HD.out with h0' | ⟨b, o, rfl, hb, hqb, hrow⟩
      · subst h0'; simp at hlt
      obtain ⟨u0, u1, u2, u3, hx, c0, c1, c2', c3⟩ := zao_ kids b o j kids[j] (zaM_ hgr.out kids b o hb hqb hrow) (List.getElem?_eq_getElem hlt)
      obtain ⟨ku, nu, tu, au, mu, cu, rfl, rfl, rfl, rfl⟩ := zaA_ hx
      have hcx : x3_ kids[j] ≤ N := by have := zaN_ kids kids[j] (List.getElem_mem hlt); omega
      have hcall := fun (W : World) (hg : GL [] wr W) => IH.out kids[j] p _ W hcx (z7_ hg _ _ hx)
      have HC := Lib.hid hcall
      clear hcall hx hrow hcx HD
      go_wp2_with fail
      refine (HC.out _ (z1_ _ _)).mono ?_
      rintro e w1 ⟨hb1, z1, rfl, hz1, hz2⟩
      go_wp2_with fail
      go_roundw
      case rel => exact ⟨j + 1, s + z1, by omega, by go_num, by first | rfl | (congr; omega), by omega, by omega, Lib.hid (z9_ H1.out hb1 (z0_ H1.out)), Lib.hid (z4_ hb1 hgr.out)⟩
      case measure => simp [intOf]; omega
    · have b1 : decide (s ≤ top) = false := by simpa using hst
      go_wp2
      go_ret
      exact HF.out _ hgr.out _ (by first | rfl | (congr; omega) | (simp; omega))
  · obtain rfl : j = kids.length := by omega
    have i4 : decide ((kids.length : Int) < kids.length) = false := by simp
    go_wp2
    go_ret
    exact HF.out _ hgr.out _ (by first | rfl | (congr; omega) | (simp; omega))
theorem zhy_ (top : Int) (h0 : 0 ≤ top) (h1 : top ≤ 1000) : ∀ N, zhx_ N top
 | 0 => fun x p u w hN _ => by have := j5_ x; omega
 | N + 1 => fun x p u w hN hx => by
   obtain ⟨k, t, n, kids⟩ := x
   obtain ⟨ad, c, rfl, _, _, ht, hkn, hd⟩ := y3_ hx
   rw [x3_] at hN
   exact zlu_ N top (zhy_ top h0 h1 N) h0 h1 k n t kids ad c p ht hkn om_ w hd
theorem zcq_ (top : Int) (h0 : 0 ≤ top) (h1 : top ≤ 1000) (x : LT) (p : Nat → Prop) (u : Value) (w : World) (hx : y2_ p w x u) :
  Calls Tryz.prog 21 #[u, .int .i64 top] w fun e w' => Below w.heap.size w w' ∧ ∃ z : Int, e = .returned (.int .i64 z) ∧ 0 ≤ z ∧ z ≤ top + 1 :=
 zhy_ top h0 h1 (x3_ x).toNat x p u w (by have := j5_ x; omega) hx
def v2_ (t : Array Value) : List (Option Nat) → List Value → Array Value
 | some d :: ds, v :: vs => v2_ (t.setIfInBounds d v) ds vs
 | none :: ds, _ :: vs => v2_ t ds vs
 | _, _ => t
theorem zdb_ : ∀ (ds : List (Option Nat)) (vs : List Value) (t : Array Value) (k : Nat), some k ∉ ds → (v2_ t ds vs)[k]? = t[k]?
 | [], vs, t, k, _ => by cases vs <;> rfl
 | some d :: ds, [], t, k, _ => rfl
 | none :: ds, [], t, k, _ => rfl
 | some d :: ds, v :: vs, t, k, h => by
   have h1 : d ≠ k := fun e => h (by rw [e]; simp)
   rw [v2_, zdb_ ds vs _ k (fun e => h (by simp [e])), Array.getElem?_setIfInBounds_ne h1]
 | none :: ds, v :: vs, t, k, h => by rw [v2_, zdb_ ds vs _ k (fun e => h (by simp [e]))]
def Distinct : List (Option Nat) → Prop
 | [] => True
 | some d :: ds => some d ∉ ds ∧ Distinct ds
 | none :: ds => Distinct ds
def zed_ : List (Option Nat) → Bool
 | [] => true
 | some d :: ds => !ds.contains (some d) && zed_ ds
 | none :: ds => zed_ ds
theorem zcD_ : ∀ ds, zed_ ds = true → Distinct ds
 | [], _ => trivial
 | some d :: ds, h => by
   simp only [zed_, Bool.and_eq_true, Bool.not_eq_true'] at h
   refine ⟨fun hm => ?_, zcD_ ds h.2⟩
   have h1 := List.contains_iff_mem.2 hm
   rw [h.1] at h1
   cases h1
 | none :: ds, h => zcD_ ds h
theorem zdz_ : ∀ (ds : List (Option Nat)) (vs : List Value) (t : Array Value) (i d : Nat) (v : Value), Distinct ds → ds[i]? = some (some d) → vs[i]? = some v → d < t.size → (v2_ t ds vs)[d]? = some v
 | [], _, _, _, _, _, _, h, _, _ => by simp at h
 | some e :: ds, [], _, _, _, _, _, _, h, _ => by simp at h
 | none :: ds, [], _, _, _, _, _, _, h, _ => by simp at h
 | some e :: ds, u :: vs, t, 0, d, v, hD, h, hv, hl => by
   simp only [List.getElem?_cons_zero, Option.some.injEq] at h hv
   subst h hv
   rw [v2_, zdb_ ds vs _ e hD.1, Array.getElem?_setIfInBounds_self_of_lt hl]
 | none :: ds, u :: vs, t, 0, d, v, hD, h, hv, hl => by simp at h
 | some e :: ds, u :: vs, t, i + 1, d, v, hD, h, hv, hl => by
   simp only [List.getElem?_cons_succ] at h hv
   rw [v2_]
   exact zdz_ ds vs _ i d v hD.2 h hv (by simpa using hl)
 | none :: ds, u :: vs, t, i + 1, d, v, hD, h, hv, hl => by
   simp only [List.getElem?_cons_succ] at h hv
   rw [v2_]
   exact zdz_ ds vs _ i d v hD h hv hl
theorem zdA_ : ∀ (ds : List (Option Nat)) (vs : List Value) (t : Array Value) (i d : Nat) (v : Value), Distinct ds → ds[i]? = some (some d) → i < vs.length → (v2_ t ds vs).setIfInBounds d v = v2_ t ds (vs.set i v)
 | [], _, _, _, _, _, _, h, _ => by simp at h
 | some e :: ds, [], _, _, _, _, _, _, h => by simp at h
 | none :: ds, [], _, _, _, _, _, _, h => by simp at h
 | some e :: ds, u :: vs, t, 0, d, v, hD, h, _ => by
   simp only [List.getElem?_cons_zero, Option.some.injEq] at h
   subst h
   rw [List.set_cons_zero, v2_, v2_]
   have : ∀ (ds : List (Option Nat)) (vs : List Value) (t : Array Value), some e ∉ ds → (v2_ t ds vs).setIfInBounds e v = v2_ (t.setIfInBounds e v) ds vs := by
    intro ds
    induction ds with
    | nil => intro vs t _; cases vs <;> rfl
    | cons x ds ih =>
      intro vs t hx
      cases vs with
      | nil => cases x <;> rfl
      | cons y vs =>
        cases x with
        | none => rw [v2_, v2_, ih vs t (fun h => hx (by simp [h]))]
        | some z =>
          have hz : z ≠ e := fun h => hx (by simp [h])
          rw [v2_, v2_, ih vs _ (fun h => hx (by simp [h])), Array.setIfInBounds_comm _ _ hz]
   rw [this ds vs _ hD.1, Array.setIfInBounds_setIfInBounds]
 | none :: ds, u :: vs, t, 0, d, v, hD, h, _ => by simp at h
 | some e :: ds, u :: vs, t, i + 1, d, v, hD, h, hi => by
   simp only [List.getElem?_cons_succ] at h
   rw [List.set_cons_succ, v2_, v2_]
   exact zdA_ ds vs _ i d v hD.2 h (by simpa using hi)
 | none :: ds, u :: vs, t, i + 1, d, v, hD, h, hi => by
   simp only [List.getElem?_cons_succ] at h
   rw [List.set_cons_succ, v2_, v2_]
   exact zdA_ ds vs _ i d v hD h (by simpa using hi)
theorem zdB_ : ∀ (ds : List (Option Nat)) (vs : List Value) (t : Array Value) (i : Nat) (v : Value), ds[i]? = some none → v2_ t ds (vs.set i v) = v2_ t ds vs
 | [], _, _, _, _, h => by simp at h
 | some e :: ds, [], _, _, _, h => rfl
 | none :: ds, [], _, _, _, h => rfl
 | some e :: ds, u :: vs, t, 0, v, h => by simp at h
 | none :: ds, u :: vs, t, 0, v, h => rfl
 | some e :: ds, u :: vs, t, i + 1, v, h => by
   simp only [List.getElem?_cons_succ] at h
   rw [List.set_cons_succ, v2_, v2_]
   exact zdB_ ds vs _ i v h
 | none :: ds, u :: vs, t, i + 1, v, h => by
   simp only [List.getElem?_cons_succ] at h
   rw [List.set_cons_succ, v2_, v2_]
   exact zdB_ ds vs _ i v h
def zb5_ (t : Array Value) (ds : List (Option Nat)) : List Value := ds.map fun d => match d with | some d => t.getD d undef | none => undef
theorem zdC_ : ∀ (ds : List (Option Nat)) (t : Array Value), v2_ t ds (zb5_ t ds) = t
 | [], t => rfl
 | some d :: ds, t => by
   have e : t.setIfInBounds d (t.getD d undef) = t := by
    apply Array.ext
    · simp
    · intro i h1 h2
      rw [Array.getElem_setIfInBounds h2]
      split
      · rename_i hd
        subst hd
        simp [Array.getD, h2]
      · rfl
   show v2_ (t.setIfInBounds d (t.getD d undef)) ds (zb5_ t ds) = t
   rw [e]
   exact zdC_ ds t
 | none :: ds, t => zdC_ ds t
def unl : List Bool → Nat
 | [] => 0
 | b :: r => (if b then 0 else 1) + unl r
theorem zdD_ : ∀ (l : List Bool) (i : Nat), l[i]? = some false → unl (l.set i true) + 1 = unl l
 | [], i, h => by simp at h
 | b :: r, 0, h => by
   simp only [List.getElem?_cons_zero, Option.some.injEq] at h
   subst h
   simp [unl]; omega
 | b :: r, i + 1, h => by
   simp only [List.getElem?_cons_succ] at h
   have := zdD_ r i h
   simp only [List.set_cons_succ, unl]
   omega
theorem zdE_ : ∀ (l : List Bool), unl l = 0 → ∀ (i : Nat) (b : Bool), l[i]? = some b → b = true
 | [], _, i, b, h => by simp at h
 | c :: r, h0, 0, b, h => by
   simp only [List.getElem?_cons_zero, Option.some.injEq] at h
   subst h
   cases c with
   | true => rfl
   | false => simp [unl] at h0
 | c :: r, h0, i + 1, b, h => by
   simp only [List.getElem?_cons_succ] at h
   exact zdE_ r (by simp only [unl] at h0; omega) i b h
theorem zee_ : ∀ n, unl (List.replicate n false) = n
 | 0 => rfl
 | n + 1 => by rw [List.replicate_succ, unl, zee_ n]; simp; omega
section
variable {P : Program} {ops : Array Oper} {Q : Exit → Act → World → Prop} {a0 : Act} {w0 : World} {ds : List (Option Nat)}
def GLT (_ _ : World) : Prop := True
theorem zef_ {listed : Array Bool} (hls : listed.size = ops.size) (hdep : ∀ (i : Nat) (o : Oper), ops[i]? = some o → ∀ e ∈ o.after.toList, e.on < i) (h : Region.ready .any ops listed = []) : ∀ i, i < ops.size → listed[i]? = some true := by
 intro i
 induction i using Nat.strongRecOn with
 | _ i ih =>
   intro hi
   cases hb : listed[i]'om_ with
   | true => rw [Array.getElem?_eq_getElem om_, hb]
   | false =>
     have : i ∈ Region.ready .any ops listed := by
      unfold Region.ready
      rw [List.mem_filter]
      refine ⟨List.mem_range.2 hi, ?_⟩
      have e1 : listed.getD i true = false := by simp [Array.getD, hls, hi, hb]
      rw [e1, Array.getElem?_eq_getElem hi]
      simp only [Bool.not_false, Bool.true_and, Option.map_some, Option.getD_some]
      rw [Array.all_eq_true]
      intro k hk
      have hlt := hdep i ops[i] (Array.getElem?_eq_getElem hi) (ops[i].after[k]) si_
      have := ih _ hlt om_
      have e2 : listed.getD ops[i].after[k].on false = true := by
       rw [Array.getD_eq_getD_getElem?, this]; rfl
      rw [e2, Bool.or_true]
     rw [h] at this
     cases this
def depB : Nat → List Oper → Bool
 | _, [] => true
 | i, o :: r => o.after.toList.all (fun e => decide (e.on < i)) && depB (i + 1) r
theorem zhz_ : ∀ (l : List Oper) (k j : Nat) (o : Oper), depB k l = true → l[j]? = some o → ∀ e ∈ o.after.toList, e.on < k + j
 | [], _, _, _, _, h => by simp at h
 | x :: r, k, 0, o, hs, h => by
   simp only [List.getElem?_cons_zero, Option.some.injEq] at h
   subst h
   simp only [depB, Bool.and_eq_true, List.all_eq_true, decide_eq_true_eq] at hs
   exact hs.1
 | x :: r, k, j + 1, o, hs, h => by
   simp only [List.getElem?_cons_succ] at h
   simp only [depB, Bool.and_eq_true] at hs
   have := zhz_ r (k + 1) j o hs.2 h
   rwa [show k + 1 + j = k + (j + 1) by omega] at this
theorem zfj_ {l : List Oper} (hs : depB 0 l = true) (i : Nat) (o : Oper) (h : l.toArray[i]? = some o) : ∀ e ∈ o.after.toList, e.on < i := by
 have := zhz_ l 0 i o hs (by simpa using h)
 rwa [Nat.zero_add] at this
def ltB (n : Nat) : List (Option Nat) → Bool
 | [] => true
 | some d :: r => decide (d < n) && ltB n r
 | none :: r => ltB n r
theorem zcE_ {n : Nat} : ∀ (l : List (Option Nat)), ltB n l = true → ∀ d, some d ∈ l → d < n
 | [], _, d, h => by simp at h
 | some e :: r, hs, d, h => by
   simp only [ltB, Bool.and_eq_true, decide_eq_true_eq] at hs
   rcases List.mem_cons.1 h with h | h
   · injection h with h; omega
   · exact zcE_ r hs.2 d h
 | none :: r, hs, d, h => by
   rcases List.mem_cons.1 h with h | h
   · cases h
   · exact zcE_ r hs d h
theorem y0_ {α : Type} {n : Nat} {l : List α} (h : l.length = n + 1) : ∃ a r, l = a :: r ∧ r.length = n := by
 cases l with
 | nil => simp at h
 | cons a r => exact ⟨a, r, rfl, by simpa using h⟩
def zcF_ (ops : Array Oper) : Nat → Nat → Nat → Bool
 | 0, _, _ => false
 | f + 1, i, k => match ops[i]? with
   | none => false
   | some o => o.after.toList.any fun e => Region.binds .any e && (e.on == k || zcF_ ops f e.on k)
def Closed (ops : Array Oper) (listed : Array Bool) : Prop := ∀ (i : Nat) (o : Oper), listed[i]? = some true → ops[i]? = some o → ∀ e ∈ o.after.toList, Region.binds .any e = true → listed[e.on]? = some true
theorem zeg_ {listed : Array Bool} (hc : Closed ops listed) : ∀ (f i k : Nat) (o : Oper), ops[i]? = some o → (∀ e ∈ o.after.toList, Region.binds .any e = true → listed[e.on]? = some true) → zcF_ ops f i k = true → listed[k]? = some true
 | 0, _, _, _, _, _, h => by simp [zcF_] at h
 | f + 1, i, k, o, ho, hd, h => by
   rw [zcF_, ho] at h
   simp only [List.any_eq_true, Bool.and_eq_true, Bool.or_eq_true, beq_iff_eq] at h
   obtain ⟨e, he, hb, h⟩ := h
   have hl := hd e he hb
   rcases h with h | h
   · rw [← h]; exact hl
   · cases ho2 : ops[e.on]? with
     | none =>
       cases f with
       | zero => simp [zcF_] at h
       | succ f => rw [zcF_, ho2] at h; cases h
     | some o2 => exact zeg_ hc f e.on k o2 ho2 (fun e2 he2 hb2 => hc _ _ hl ho2 e2 he2 hb2) h
def zdd_ (ops : Array Oper) (n1 f : Nat) : Bool := (List.range ops.size).all fun i => decide (i < n1) || (List.range i).all fun k => zcF_ ops f i k
theorem zfk_ {n1 f : Nat} (h : zdd_ ops n1 f = true) {i k : Nat} (h1 : n1 ≤ i) (h2 : i < ops.size) (h3 : k < i) : zcF_ ops f i k = true := by
 unfold zdd_ at h
 rw [List.all_eq_true] at h
 have := h i (List.mem_range.2 h2)
 rw [Bool.or_eq_true, decide_eq_true_eq] at this
 rcases this with h | h
 · omega
 · rw [List.all_eq_true] at h
   exact h k (List.mem_range.2 h3)
theorem zlv_ {listed : Array Bool} {i : Nat} (h : listed.getD i false = true) : listed[i]? = some true := by
 rw [Array.getD_eq_getD_getElem?] at h
 cases hq : listed[i]? with
 | none => rw [hq] at h; cases h
 | some b => rw [hq] at h; simp at h; rw [h]
theorem zfl_ {listed : Array Bool} {i : Nat} (h : i ∈ Region.ready .any ops listed) : ∃ o, ops[i]? = some o ∧ i < ops.size ∧ (listed.size = ops.size → listed[i]? = some false) ∧ ∀ e ∈ o.after.toList, Region.binds .any e = true → listed[e.on]? = some true := by
 unfold Region.ready at h
 rw [List.mem_filter, List.mem_range] at h
 obtain ⟨hlt, hr⟩ := h
 rw [Array.getElem?_eq_getElem hlt] at hr
 simp only [Option.map_some, Option.getD_some, Bool.and_eq_true, Bool.not_eq_true'] at hr
 obtain ⟨hr1, hr2⟩ := hr
 refine ⟨ops[i], Array.getElem?_eq_getElem hlt, hlt, fun hs => ?_, fun e he hb => ?_⟩
 · rw [Array.getD_eq_getD_getElem?] at hr1
   cases hq : listed[i]? with
   | none => rw [hq] at hr1; cases hr1
   | some b => rw [hq] at hr1; simp at hr1; rw [hr1]
 · rw [Array.all_eq_true] at hr2
   obtain ⟨k, hk, rfl⟩ := Array.mem_iff_getElem.1 (Array.mem_toList_iff.1 he)
   have := hr2 k hk
   rw [hb] at this
   simp only [Bool.not_true, Bool.false_or] at this
   exact zlv_ this
theorem zeh_ {n1 f : Nat} (hdep : ∀ (i : Nat) (o : Oper), ops[i]? = some o → ∀ e ∈ o.after.toList, e.on < i) (ht : zdd_ ops n1 f = true) : ∀ (fuel m : Nat) (listed : Array Bool) (a : Act) (w : World), n1 ≤ m → m ≤ ops.size → listed.size = ops.size → (∀ i, i < m → listed[i]? = some true) → (∀ i, m ≤ i → i < ops.size → listed[i]? = some false) →
  unl listed.toList = fuel → wpOps P ops Q (List.range' m (ops.size - m)) a w → wpAny P .any ops Q fuel listed a w := by
 intro fuel
 induction fuel with
 | zero =>
   intro m listed a w h1 h2 hs hl hr hu hw
   have hm : m = ops.size := by
    by_cases h : m = ops.size
    · exact h
    · have := zdE_ _ hu m false (by rw [Array.getElem?_toList]; exact hr m (Nat.le_refl _) om_)
      cases this
   subst hm
   rw [Nat.sub_self] at hw
   refine ⟨?_, hw⟩
   unfold Region.ready
   rw [List.filter_eq_nil_iff]
   intro i hi
   rw [List.mem_range] at hi
   have e1 : listed.getD i true = true := by rw [Array.getD_eq_getD_getElem?, hl i hi]; rfl
   rw [e1]; simp
 | succ fuel ih =>
   intro m listed a w h1 h2 hs hl hr hu hw
   have hm : m < ops.size := by
    by_cases h : m = ops.size
    · exfalso
      have hz : ∀ (l : List Bool), (∀ (i : Nat), i < l.length → l[i]? = some true) → unl l = 0 := by
       intro l
       induction l with
       | nil => intro _; rfl
       | cons b r ihl =>
         intro hb
         have := hb 0 si_
         simp at this
         subst this
         rw [unl, ihl (fun i hi => by have := hb (i + 1) (by simpa using hi); simpa using this)]; rfl
      have := hz listed.toList (fun i hi => by rw [Array.getElem?_toList]; exact hl i (by rw [Array.length_toList] at hi; omega))
      omega
    · omega
   have hclosed : Closed ops listed := by
    intro i o hi ho e he _
    have hlt := hdep i o ho e he
    have : i < m := by
     by_cases h : i < m
     · exact h
     · have hio : i < ops.size := (Array.getElem?_eq_some_iff.1 ho).1
       rw [hr i om_ hio] at hi
       cases hi
    exact hl _ om_
   refine ⟨fun hn => ?_, fun i hi => ?_⟩
   · have := zef_ hs hdep hn m hm
     rw [hr m (Nat.le_refl _) hm] at this
     cases this
   · obtain ⟨o, ho, hlt, hli, hd⟩ := zfl_ hi
     have hli := hli hs
     have him : i = m := by
      by_cases h : i < m
      · rw [hl i h] at hli; cases hli
      · by_cases h5 : i = m
        · exact h5
        · have := zeg_ hclosed f i m o ho hd (zfk_ ht om_ hlt om_)
          rw [hr m (Nat.le_refl _) hm] at this
          cases this
     subst him
     rw [show ops.size - i = (ops.size - (i + 1)) + 1 by omega, List.range'_succ, wpOps_cons] at hw
     refine wpOp_mono (fun a' w' h => ?_) hw
     refine ih (i + 1) _ a' w' om_ om_ (by simpa using hs) (fun j hj => ?_) (fun j hj hj2 => ?_) ?_ h
     · by_cases hji : j = i
       · subst hji
         rw [Array.getElem?_setIfInBounds_self_of_lt om_]
       · rw [Array.getElem?_setIfInBounds_ne (fun e => hji e.symm)]
         exact hl j om_
     · rw [Array.getElem?_setIfInBounds_ne om_]
       exact hr j om_ hj2
     · have := zdD_ listed.toList i (by rw [Array.getElem?_toList]; exact hli)
       rw [Array.toList_setIfInBounds]
       omega
theorem zhA_ {i : Nat} {rest : List Nat} {o : Oper} {a : Act} {w : World} (ho : ops[i]? = some o) (hg : o.guard = none) (h : ∀ K, (∀ a w, wpOps P ops Q rest a w → K a w) → o.wp P a w K Q) : wpOps P ops Q (i :: rest) a w := by
 rw [wpOps, ho]
 simp only
 rw [if_pos (by simp [Region.wanted, hg])]
 exact .inl (h _ (fun _ _ h => h))
def updV (m : Nat → Option Value) (i : Nat) (v : Value) : Nat → Option Value := fun j => if j = i then some v else m j
def mOf (listed : Array Bool) (vs : List Value) : Nat → Option Value := fun i => if listed[i]? = some true then vs[i]? else none
theorem zhB_ {listed : Array Bool} {vs : List Value} {i : Nat} {v : Value} (h1 : i < listed.size) (h2 : i < vs.length) : mOf (listed.setIfInBounds i true) (vs.set i v) = updV (mOf listed vs) i v := by
 funext j
 unfold mOf updV
 by_cases h : j = i
 · subst h
   rw [if_pos rfl, Array.getElem?_setIfInBounds_self_of_lt h1, if_pos rfl, List.getElem?_set_self h2]
 · rw [if_neg h, Array.getElem?_setIfInBounds_ne (fun e => h e.symm), List.getElem?_set_ne (fun e => h e.symm)]
def zlw_ (P : Program) (ops : Array Oper) (Q : Exit → Act → World → Prop) (a0 : Act) (w0 : World) (ds : List (Option Nat)) (J : (Nat → Option Value) → World → Prop) (i : Nat) (o : Oper) : Prop :=
 ∀ (a : Act) (w : World) (m : Nat → Option Value), GLT w0 w → (∀ t, some t ∉ ds → a.tmps[t]? = a0.tmps[t]?) → J m w → m i = none →
  (∀ e ∈ o.after.toList, Region.binds .any e = true → ∃ v, m e.on = some v) → (∀ j v d, m j = some v → ds[j]? = some (some d) → a.tmps[d]? = some v) →
    ∀ K : Act → World → Prop, (∀ v w', J (updV m i v) w' → GLT w w' → K (a.put o.dst v) w') →
     if Region.wanted o (yielded ops a.tmps) = true then o.wp P a w K Q else K (a.put o.dst undef) w
theorem zlx_ {J : (Nat → Option Value) → World → Prop} {id : Nat} (n1 f : Nat) (hn1 : n1 ≤ ops.size) (hm : P.follows .mixedOrders = true) (hds : ds = (ops.toList.take n1).map (·.dst)) (hD : Distinct ds) (hsz : ∀ d, some d ∈ ds → d < a0.tmps.size)
  (hdep : ∀ (i : Nat) (o : Oper), ops[i]? = some o → ∀ e ∈ o.after.toList, e.on < i) (ht : zdd_ ops n1 f = true)
  (hJ0 : J (fun _ => none) w0.drew)
  (hsteps : ∀ i o, i < n1 → ops[i]? = some o → zlw_ P ops Q a0 w0.drew ds J i o)
  (hend : ∀ vs w', vs.length = ds.length → J (fun i => vs[i]?) w' → GLT w0.drew w' → wpOps P ops Q (List.range' n1 (ops.size - n1)) { a0 with tmps := v2_ a0.tmps ds vs } w') :
  (Code.region id ops true).wp P Q a0 w0 := by
 refine wp_region_any hm ?_
 have hlen : ds.length = n1 := by rw [hds]; simp; omega
 have main : ∀ (fuel : Nat) (listed : Array Bool) (vs : List Value) (w : World), vs.length = ds.length → GLT w0.drew w → listed.size = ops.size → J (mOf listed vs) w → (∀ i, n1 ≤ i → i < ops.size → listed[i]? = some false) → Closed ops listed →
   unl listed.toList = fuel → wpAny P .any ops Q fuel listed { a0 with tmps := v2_ a0.tmps ds vs } w := by
  intro fuel
  induction fuel with
  | zero =>
    intro listed vs w h1 h2 h3 h4 h5 hc hu
    have hall : ∀ i, i < n1 → listed[i]? = some true := by
     intro i hi
     have h := zdE_ _ hu i (listed[i]'om_) (by rw [Array.getElem?_toList]; exact Array.getElem?_eq_getElem _)
     rw [Array.getElem?_eq_getElem om_, h]
    exact zeh_ hdep ht 0 n1 listed _ w (Nat.le_refl _) hn1 h3 hall h5 hu (hend vs w h1 (by
     have e : mOf listed vs = fun i => vs[i]? := by
      funext i
      unfold mOf
      by_cases hi : i < n1
      · rw [if_pos (hall i hi)]
      · by_cases hq : listed[i]? = some true
        · rw [if_pos hq]
        · rw [if_neg hq, List.getElem?_eq_none om_]
     rw [← e]; exact h4) h2)
  | succ fuel ih =>
    intro listed vs w h1 h2 h3 h4 h5 hc hu
    by_cases hall : ∀ i, i < n1 → listed[i]? = some true
    · exact zeh_ hdep ht (fuel + 1) n1 listed _ w (Nat.le_refl _) hn1 h3 hall h5 hu (hend vs w h1 (by
      have e : mOf listed vs = fun i => vs[i]? := by
       funext i
       unfold mOf
       by_cases hi : i < n1
       · rw [if_pos (hall i hi)]
       · by_cases hq : listed[i]? = some true
         · rw [if_pos hq]
         · rw [if_neg hq, List.getElem?_eq_none om_]
      rw [← e]; exact h4) h2)
    · refine ⟨fun hr => absurd (fun i hi => zef_ h3 hdep hr i om_) hall, fun i hi => ?_⟩
      obtain ⟨o, ho, hlt, hli, hd⟩ := zfl_ hi
      have hli := hli h3
      have hin : i < n1 := by
       by_cases h : i < n1
       · exact h
       · exact absurd (fun k hk => zeg_ hc f i k o ho hd (zfk_ ht om_ hlt om_)) hall
      have hdi : ds[i]? = some o.dst := by
       rw [hds, List.getElem?_map, List.getElem?_take_of_lt hin, Array.getElem?_toList, ho]; rfl
      have hmi : mOf listed vs i = none := by unfold mOf; rw [hli]; simp
      have hst := hsteps i o hin ho { a0 with tmps := v2_ a0.tmps ds vs } w (mOf listed vs) h2 (fun t ht => zdb_ _ _ _ _ ht) h4 hmi (fun e he hb => by
       have hl := hd e he hb
       have hlt2 := hdep i o ho e he
       unfold mOf
       rw [if_pos hl]
       exact ⟨vs[e.on]'om_, List.getElem?_eq_getElem _⟩) (fun j v d hj hdj => by
       unfold mOf at hj
       split at hj
       · exact zdz_ _ _ _ _ _ _ hD hdj hj (hsz d (List.mem_of_getElem? hdj))
       · cases hj)
      have hnext : ∀ v w', J (updV (mOf listed vs) i v) w' → GLT w w' → wpAny P .any ops Q fuel (listed.setIfInBounds i true) (({ a0 with tmps := v2_ a0.tmps ds vs } : Act).put o.dst v) w' := by
       intro v w' hG hg
       have e1 : (({ a0 with tmps := v2_ a0.tmps ds vs } : Act).put o.dst v) = { a0 with tmps := v2_ a0.tmps ds (vs.set i v) } := by
        cases hd : o.dst with
        | none => rw [hd] at hdi; rw [zdB_ _ _ _ _ _ hdi]; rfl
        | some d =>
          rw [hd] at hdi
          rw [← zdA_ _ _ _ i d v hD hdi om_]; rfl
       rw [e1]
       refine ih _ _ _ (by simpa using h1) (trivial) (by simpa using h3) (by rw [zhB_ om_ om_]; exact hG) (fun j hj1 hj2 => ?_) (fun j oj hj hoj e he hb => ?_) ?_
       · rw [Array.getElem?_setIfInBounds_ne om_]
         exact h5 j hj1 hj2
       · have : listed[e.on]? = some true := by
          by_cases hji : j = i
          · subst hji
            rw [ho] at hoj
            cases hoj
            exact hd e he hb
          · rw [Array.getElem?_setIfInBounds_ne (fun e => hji e.symm)] at hj
            exact hc j oj hj hoj e he hb
         by_cases hei : e.on = i
         · rw [hei, Array.getElem?_setIfInBounds_self_of_lt om_]
         · rw [Array.getElem?_setIfInBounds_ne (fun h => hei h.symm)]
           exact this
       · have := zdD_ listed.toList i (by rw [Array.getElem?_toList]; exact hli)
         rw [Array.toList_setIfInBounds]
         omega
      unfold wpOp
      rw [ho]
      have hst2 := hst _ hnext
      simp only
      split
      · rename_i hw
        rw [if_pos hw] at hst2
        exact .inl hst2
      · rename_i hw
        rw [if_neg hw] at hst2
        exact hst2
 have h0 := main (unl (Array.replicate ops.size false).toList) (Array.replicate ops.size false) (zb5_ a0.tmps ds) w0.drew (by simp [zb5_]) trivial si_ (by
  have e : mOf (Array.replicate ops.size false) (zb5_ a0.tmps ds) = fun _ => none := by
   funext i
   unfold mOf
   rw [if_neg]
   rw [Array.getElem?_replicate]
   split <;> simp
  rw [e]; exact hJ0) (fun i _ hi => by rw [Array.getElem?_replicate, if_pos hi]) (fun i o h => by
  rw [Array.getElem?_replicate] at h
  split at h <;> simp at h) rfl
 rw [zdC_, Array.toList_replicate, zee_] at h0
 exact h0
end
section
variable {P : Program} {ops : Array Oper} {Q : Exit → Act → World → Prop} {a0 : Act} {w0 : World} {ds : List (Option Nat)} {G : Nat → Value → World → Prop}
def k6_ (P : Program) (ops : Array Oper) (Q : Exit → Act → World → Prop) (a0 : Act) (w0 : World) (ds : List (Option Nat)) (G : Nat → Value → World → Prop) (i : Nat) (o : Oper) : Prop :=
 ∀ (a : Act) (w : World), GL [] w0 w → (∀ t, some t ∉ ds → a.tmps[t]? = a0.tmps[t]?) →
  (∀ e ∈ o.after.toList, Region.binds .any e = true → ∃ v, G e.on v w ∧ ∀ d, ds[e.on]? = some (some d) → a.tmps[d]? = some v) →
  ∀ K : Act → World → Prop, (∀ v w', G i v w' → GL [] w w' → K (a.put o.dst v) w') →
   if Region.wanted o (yielded ops a.tmps) = true then o.wp P a w K Q else K (a.put o.dst undef) w
def Inv (ops : Array Oper) (a0 : Act) (w0 : World) (ds : List (Option Nat)) (G : Nat → Value → World → Prop) (listed : Array Bool) (a : Act) (w : World) : Prop :=
 ∃ vs : List Value, vs.length = ds.length ∧ a = { a0 with tmps := v2_ a0.tmps ds vs } ∧ GL [] w0 w ∧ listed.size = ops.size ∧ ∀ i, listed[i]? = some true → ∃ v, vs[i]? = some v ∧ G i v w
def zfm_ (P : Program) (ops : Array Oper) (Q : Exit → Act → World → Prop) (a0 : Act) (w0 : World) (ds : List (Option Nat)) (G : Nat → Value → World → Prop) : Nat → List Oper → Prop
 | _, [] => True
 | i, o :: r => k6_ P ops Q a0 w0 ds G i o ∧ zfm_ P ops Q a0 w0 ds G (i + 1) r
theorem zhC_ : ∀ (l : List Oper) (k j : Nat) (o : Oper), zfm_ P ops Q a0 w0 ds G k l → l[j]? = some o → k6_ P ops Q a0 w0 ds G (k + j) o
 | [], _, _, _, _, h => by simp at h
 | x :: r, k, 0, o, hs, h => by
   simp only [List.getElem?_cons_zero, Option.some.injEq] at h
   subst h
   exact hs.1
 | x :: r, k, j + 1, o, hs, h => by
   simp only [List.getElem?_cons_succ] at h
   have := zhC_ r (k + 1) j o hs.2 h
   rwa [show k + 1 + j = k + (j + 1) by omega] at this
theorem zly_ {l : List Oper} (hs : zfm_ P l.toArray Q a0 w0 ds G 0 l) (i : Nat) (o : Oper) (h : l.toArray[i]? = some o) : k6_ P l.toArray Q a0 w0 ds G i o := by
 have := zhC_ l 0 i o hs (by simpa using h)
 rwa [Nat.zero_add] at this
theorem zlz_ {id : Nat} (hm : P.follows .mixedOrders = true) (hds : ds = ops.toList.map (·.dst)) (hD : Distinct ds) (hsz : ∀ d, some d ∈ ds → d < a0.tmps.size)
  (hdep : ∀ (i : Nat) (o : Oper), ops[i]? = some o → ∀ e ∈ o.after.toList, e.on < i)
  (hmono : ∀ i v w w', G i v w → GL [] w w' → G i v w')
  (hsteps : ∀ i o, ops[i]? = some o → k6_ P ops Q a0 w0.drew ds G i o)
  (hend : ∀ vs w', vs.length = ds.length → (∀ i, i < ops.size → ∃ v, vs[i]? = some v ∧ G i v w') → GL [] w0.drew w' → Q .normal { a0 with tmps := v2_ a0.tmps ds vs } w') :
  (Code.region id ops true).wp P Q a0 w0 := by
 refine wp_region_any hm ?_
 have hlen : ds.length = ops.size := by rw [hds]; simp
 have main : ∀ (fuel : Nat) (listed : Array Bool) (a : Act) (w : World), Inv ops a0 w0.drew ds G listed a w → unl listed.toList = fuel → wpAny P .any ops Q fuel listed a w := by
  intro fuel
  induction fuel with
  | zero =>
    intro listed a w hI hu
    obtain ⟨vs, h1, rfl, h2, h3, h4⟩ := hI
    have hall : ∀ i, i < ops.size → listed[i]? = some true := by
     intro i hi
     have h := zdE_ _ hu i (listed[i]'om_) (by rw [Array.getElem?_toList]; exact Array.getElem?_eq_getElem _)
     rw [Array.getElem?_eq_getElem om_, h]
    refine ⟨?_, hend vs w h1 (fun i hi => h4 i (hall i hi)) h2⟩
    unfold Region.ready
    rw [List.filter_eq_nil_iff]
    intro i hi
    rw [List.mem_range] at hi
    have e1 : listed.getD i true = true := by rw [Array.getD_eq_getD_getElem?, hall i hi]; rfl
    rw [e1]; simp
  | succ fuel ih =>
    intro listed a w hI hu
    obtain ⟨vs, h1, ha, h2, h3, h4⟩ := hI
    refine ⟨fun hr => ?_, fun i hi => ?_⟩
    · subst ha
      exact hend vs w h1 (fun i hi => h4 i (zef_ h3 hdep hr i hi)) h2
    · unfold Region.ready at hi
      rw [List.mem_filter, List.mem_range] at hi
      obtain ⟨hlt, hr⟩ := hi
      rw [Array.getElem?_eq_getElem hlt] at hr
      simp only [Option.map_some, Option.getD_some, Bool.and_eq_true, Bool.not_eq_true'] at hr
      obtain ⟨hr1, hr2⟩ := hr
      have hli : listed[i]? = some false := by
       rw [Array.getD_eq_getD_getElem?] at hr1
       cases hq : listed[i]? with
       | none => rw [hq] at hr1; cases hr1
       | some b => rw [hq] at hr1; simp at hr1; rw [hr1]
      have hdi : ds[i]? = some ops[i].dst := by rw [hds]; simp [hlt]
      have hst := hsteps i ops[i] (Array.getElem?_eq_getElem hlt) a w h2 (fun t ht => by rw [ha]; exact zdb_ _ _ _ _ ht) (fun e he hb => by
       rw [Array.all_eq_true] at hr2
       obtain ⟨k, hk, rfl⟩ := Array.mem_iff_getElem.1 (Array.mem_toList_iff.1 he)
       have := hr2 k hk
       rw [hb] at this
       simp only [Bool.not_true, Bool.false_or] at this
       have hl : listed[ops[i].after[k].on]? = some true := by
        rw [Array.getD_eq_getD_getElem?] at this
        cases hq : listed[ops[i].after[k].on]? with
        | none => rw [hq] at this; cases this
        | some b => rw [hq] at this; simp at this; rw [this]
       obtain ⟨v, hv, hG⟩ := h4 _ hl
       refine ⟨v, hG, fun d hd => ?_⟩
       rw [ha]
       exact zdz_ _ _ _ _ _ _ hD hd hv (hsz d (List.mem_of_getElem? hd)))
      have hnext : ∀ v w', G i v w' → GL [] w w' → wpAny P .any ops Q fuel (listed.setIfInBounds i true) (a.put ops[i].dst v) w' := by
       intro v w' hG hg
       refine ih _ _ _ ⟨vs.set i v, by simpa using h1, ?_, x1_ hg h2 si_, by simpa using h3, fun j hj => ?_⟩ ?_
       · rw [ha]
         cases hd : ops[i].dst with
         | none => rw [hd] at hdi; rw [zdB_ _ _ _ _ _ hdi]; rfl
         | some d =>
           rw [hd] at hdi
           rw [← zdA_ _ _ _ i d v hD hdi om_]; rfl
       · by_cases hji : j = i
         · subst hji
           exact ⟨v, by rw [List.getElem?_set_self om_], hG⟩
         · rw [Array.getElem?_setIfInBounds_ne (fun e => hji e.symm)] at hj
           obtain ⟨u, hu1, hu2⟩ := h4 j hj
           exact ⟨u, by rw [List.getElem?_set_ne (fun e => hji e.symm)]; exact hu1, hmono _ _ _ _ hu2 hg⟩
       · have := zdD_ listed.toList i (by rw [Array.getElem?_toList]; exact hli)
         rw [Array.toList_setIfInBounds]
         omega
      unfold wpOp
      rw [Array.getElem?_eq_getElem hlt]
      have hst2 := hst _ hnext
      simp only
      split
      · rename_i hw
        rw [if_pos hw] at hst2
        exact .inl hst2
      · rename_i hw
        rw [if_neg hw] at hst2
        exact hst2
 refine main _ _ _ _ ⟨zb5_ a0.tmps ds, by simp [zb5_], ?_, z1_ _ _, by simp, fun i hi => ?_⟩ ?_
 · rw [zdC_]
 · rw [Array.getElem?_replicate] at hi
   split at hi <;> simp at hi
 · rw [Array.toList_replicate, zee_]
def zbh_ (P : Program) (ops : Array Oper) (Q : Exit → Act → World → Prop) (a0 : Act) (w0 : World) (ds : List (Option Nat)) (J : (Nat → Option Value) → World → Prop) (i : Nat) (o : Oper) : Prop :=
 ∀ (a : Act) (w : World) (m : Nat → Option Value), GL [] w0 w → (∀ t, some t ∉ ds → a.tmps[t]? = a0.tmps[t]?) → J m w → m i = none →
  (∀ e ∈ o.after.toList, Region.binds .any e = true → ∃ v, m e.on = some v) → (∀ j v d, m j = some v → ds[j]? = some (some d) → a.tmps[d]? = some v) →
    ∀ K : Act → World → Prop, (∀ v w', J (updV m i v) w' → GL [] w w' → K (a.put o.dst v) w') →
     if Region.wanted o (yielded ops a.tmps) = true then o.wp P a w K Q else K (a.put o.dst undef) w
theorem zlA_ {J : (Nat → Option Value) → World → Prop} {id : Nat} (n1 f : Nat) (hn1 : n1 ≤ ops.size) (hm : P.follows .mixedOrders = true) (hds : ds = (ops.toList.take n1).map (·.dst)) (hD : Distinct ds) (hsz : ∀ d, some d ∈ ds → d < a0.tmps.size)
  (hdep : ∀ (i : Nat) (o : Oper), ops[i]? = some o → ∀ e ∈ o.after.toList, e.on < i) (ht : zdd_ ops n1 f = true)
  (hJ0 : J (fun _ => none) w0.drew)
  (hsteps : ∀ i o, i < n1 → ops[i]? = some o → zbh_ P ops Q a0 w0.drew ds J i o)
  (hend : ∀ vs w', vs.length = ds.length → J (fun i => vs[i]?) w' → GL [] w0.drew w' → wpOps P ops Q (List.range' n1 (ops.size - n1)) { a0 with tmps := v2_ a0.tmps ds vs } w') :
  (Code.region id ops true).wp P Q a0 w0 := by
 refine wp_region_any hm ?_
 have hlen : ds.length = n1 := by rw [hds]; simp; omega
 have main : ∀ (fuel : Nat) (listed : Array Bool) (vs : List Value) (w : World), vs.length = ds.length → GL [] w0.drew w → listed.size = ops.size → J (mOf listed vs) w → (∀ i, n1 ≤ i → i < ops.size → listed[i]? = some false) → Closed ops listed →
   unl listed.toList = fuel → wpAny P .any ops Q fuel listed { a0 with tmps := v2_ a0.tmps ds vs } w := by
  intro fuel
  induction fuel with
  | zero =>
    intro listed vs w h1 h2 h3 h4 h5 hc hu
    have hall : ∀ i, i < n1 → listed[i]? = some true := by
     intro i hi
     have h := zdE_ _ hu i (listed[i]'om_) (by rw [Array.getElem?_toList]; exact Array.getElem?_eq_getElem _)
     rw [Array.getElem?_eq_getElem om_, h]
    exact zeh_ hdep ht 0 n1 listed _ w (Nat.le_refl _) hn1 h3 hall h5 hu (hend vs w h1 (by
     have e : mOf listed vs = fun i => vs[i]? := by
      funext i
      unfold mOf
      by_cases hi : i < n1
      · rw [if_pos (hall i hi)]
      · by_cases hq : listed[i]? = some true
        · rw [if_pos hq]
        · rw [if_neg hq, List.getElem?_eq_none om_]
     rw [← e]; exact h4) h2)
  | succ fuel ih =>
    intro listed vs w h1 h2 h3 h4 h5 hc hu
    by_cases hall : ∀ i, i < n1 → listed[i]? = some true
    · exact zeh_ hdep ht (fuel + 1) n1 listed _ w (Nat.le_refl _) hn1 h3 hall h5 hu (hend vs w h1 (by
      have e : mOf listed vs = fun i => vs[i]? := by
       funext i
       unfold mOf
       by_cases hi : i < n1
       · rw [if_pos (hall i hi)]
       · by_cases hq : listed[i]? = some true
         · rw [if_pos hq]
         · rw [if_neg hq, List.getElem?_eq_none om_]
      rw [← e]; exact h4) h2)
    · refine ⟨fun hr => absurd (fun i hi => zef_ h3 hdep hr i om_) hall, fun i hi => ?_⟩
      obtain ⟨o, ho, hlt, hli, hd⟩ := zfl_ hi
      have hli := hli h3
      have hin : i < n1 := by
       by_cases h : i < n1
       · exact h
       · exact absurd (fun k hk => zeg_ hc f i k o ho hd (zfk_ ht om_ hlt om_)) hall
      have hdi : ds[i]? = some o.dst := by
       rw [hds, List.getElem?_map, List.getElem?_take_of_lt hin, Array.getElem?_toList, ho]; rfl
      have hmi : mOf listed vs i = none := by unfold mOf; rw [hli]; simp
      have hst := hsteps i o hin ho { a0 with tmps := v2_ a0.tmps ds vs } w (mOf listed vs) h2 (fun t ht => zdb_ _ _ _ _ ht) h4 hmi (fun e he hb => by
       have hl := hd e he hb
       have hlt2 := hdep i o ho e he
       unfold mOf
       rw [if_pos hl]
       exact ⟨vs[e.on]'om_, List.getElem?_eq_getElem _⟩) (fun j v d hj hdj => by
       unfold mOf at hj
       split at hj
       · exact zdz_ _ _ _ _ _ _ hD hdj hj (hsz d (List.mem_of_getElem? hdj))
       · cases hj)
      have hnext : ∀ v w', J (updV (mOf listed vs) i v) w' → GL [] w w' → wpAny P .any ops Q fuel (listed.setIfInBounds i true) (({ a0 with tmps := v2_ a0.tmps ds vs } : Act).put o.dst v) w' := by
       intro v w' hG hg
       have e1 : (({ a0 with tmps := v2_ a0.tmps ds vs } : Act).put o.dst v) = { a0 with tmps := v2_ a0.tmps ds (vs.set i v) } := by
        cases hd : o.dst with
        | none => rw [hd] at hdi; rw [zdB_ _ _ _ _ _ hdi]; rfl
        | some d =>
          rw [hd] at hdi
          rw [← zdA_ _ _ _ i d v hD hdi om_]; rfl
       rw [e1]
       refine ih _ _ _ (by simpa using h1) (x1_ hg h2 si_) (by simpa using h3) (by rw [zhB_ om_ om_]; exact hG) (fun j hj1 hj2 => ?_) (fun j oj hj hoj e he hb => ?_) ?_
       · rw [Array.getElem?_setIfInBounds_ne om_]
         exact h5 j hj1 hj2
       · have : listed[e.on]? = some true := by
          by_cases hji : j = i
          · subst hji
            rw [ho] at hoj
            cases hoj
            exact hd e he hb
          · rw [Array.getElem?_setIfInBounds_ne (fun e => hji e.symm)] at hj
            exact hc j oj hj hoj e he hb
         by_cases hei : e.on = i
         · rw [hei, Array.getElem?_setIfInBounds_self_of_lt om_]
         · rw [Array.getElem?_setIfInBounds_ne (fun h => hei h.symm)]
           exact this
       · have := zdD_ listed.toList i (by rw [Array.getElem?_toList]; exact hli)
         rw [Array.toList_setIfInBounds]
         omega
      unfold wpOp
      rw [ho]
      have hst2 := hst _ hnext
      simp only
      split
      · rename_i hw
        rw [if_pos hw] at hst2
        exact .inl hst2
      · rename_i hw
        rw [if_neg hw] at hst2
        exact hst2
 have h0 := main (unl (Array.replicate ops.size false).toList) (Array.replicate ops.size false) (zb5_ a0.tmps ds) w0.drew (by simp [zb5_]) (z1_ _ _) si_ (by
  have e : mOf (Array.replicate ops.size false) (zb5_ a0.tmps ds) = fun _ => none := by
   funext i
   unfold mOf
   rw [if_neg]
   rw [Array.getElem?_replicate]
   split <;> simp
  rw [e]; exact hJ0) (fun i _ hi => by rw [Array.getElem?_replicate, if_pos hi]) (fun i o h => by
  rw [Array.getElem?_replicate] at h
  split at h <;> simp at h) rfl
 rw [zdC_, Array.toList_replicate, zee_] at h0
 exact h0
def zfn_ (P : Program) (ops : Array Oper) (Q : Exit → Act → World → Prop) (a0 : Act) (w0 : World) (ds : List (Option Nat)) (J : (Nat → Option Value) → World → Prop) (n1 : Nat) : Nat → List Oper → Prop
 | _, [] => True
 | i, o :: r => (i < n1 → zbh_ P ops Q a0 w0 ds J i o) ∧ zfn_ P ops Q a0 w0 ds J n1 (i + 1) r
theorem zhD_ {J : (Nat → Option Value) → World → Prop} {n1 : Nat} : ∀ (l : List Oper) (k j : Nat) (o : Oper), zfn_ P ops Q a0 w0 ds J n1 k l → k + j < n1 → l[j]? = some o → zbh_ P ops Q a0 w0 ds J (k + j) o
 | [], _, _, _, _, _, h => by simp at h
 | x :: r, k, 0, o, hs, hn, h => by
   simp only [List.getElem?_cons_zero, Option.some.injEq] at h
   subst h
   exact hs.1 hn
 | x :: r, k, j + 1, o, hs, hn, h => by
   simp only [List.getElem?_cons_succ] at h
   have := zhD_ r (k + 1) j o hs.2 om_ h
   rwa [show k + 1 + j = k + (j + 1) by omega] at this
theorem zlB_ {J : (Nat → Option Value) → World → Prop} {n1 : Nat} {l : List Oper} (hs : zfn_ P l.toArray Q a0 w0 ds J n1 0 l) (i : Nat) (o : Oper) (hi : i < n1) (h : l.toArray[i]? = some o) : zbh_ P l.toArray Q a0 w0 ds J i o := by
 have := zhD_ l 0 i o hs om_ (by simpa using h)
 rwa [Nat.zero_add] at this
end
def zlC_ (e : Ending) : Prop := ∃ b : Bool, e = .returned (.bool b)
theorem zfo_ {p : Nat → Prop} {w : World} {l : List LT} {cs : List Value} {T : Nat} (h : RowV p (w.alloc (.cells cs.toArray T)) l cs) : x2_ p (w.alloc (.cells cs.toArray T)) l w.heap.size 0 :=
 zd1_ l cs 0 h fun j v hj => by
  rw [z2_ (z3_ w (.cells cs.toArray T)), Nat.zero_add]
  simpa using hj
theorem zhE_ {p : Nat → Prop} {w : World} {x y : LT} {a0 a1 a2 a3 b0 b1 b2 b3 : Value} (hx : y2_ p w x (.agg #[a0, a1, a2, a3])) (hy : y2_ p w y (.agg #[b0, b1, b2, b3])) : RowV p w [x, y] [a0, a1, a2, a3, b0, b1, b2, b3] :=
 ⟨a0, a1, a2, a3, _, rfl, hx, b0, b1, b2, b3, [], rfl, hy, rfl⟩
theorem zlD_ {p : Nat → Prop} {w : World} {x y z u : LT} {a0 a1 a2 a3 b0 b1 b2 b3 c0 c1 c2 c3 d0 d1 d2 d3 : Value} (hx : y2_ p w x (.agg #[a0, a1, a2, a3])) (hy : y2_ p w y (.agg #[b0, b1, b2, b3])) (hz : y2_ p w z (.agg #[c0, c1, c2, c3])) (hu : y2_ p w u (.agg #[d0, d1, d2, d3])) :
  RowV p w [x, y, z, u] [a0, a1, a2, a3, b0, b1, b2, b3, c0, c1, c2, c3, d0, d1, d2, d3] :=
 ⟨a0, a1, a2, a3, _, rfl, hx, b0, b1, b2, b3, _, rfl, hy, c0, c1, c2, c3, _, rfl, hz, d0, d1, d2, d3, [], rfl, hu, rfl⟩
theorem zhF_ (w : World) (t : List UInt8) (T : Nat) (c : Nat) : x5_ (.slice (some ⟨w.heap.size, 0, none⟩) 1 c) [t] (w.alloc (.cells #[.string (bs t)] T)) :=
 .inr ⟨w.heap.size, 0, c, rfl, by simp, fun k u hk => by
  match k, hk with
  | 0, hk =>
    simp at hk
    subst hk
    rw [z2_ (z3_ w _)]
    rfl
  | k + 1, hk => simp at hk⟩
def xPre : LT := .mk 2 [72, 110, 50, 59] 0 []
def xOld : LT := .mk 4 [] 6 []
def xSig : LT := .mk 1 [80, 110, 49, 59] 0 []
def xAll : LT := .mk 5 [] 0 [xPre, xOld]
def xAny : LT := .mk 6 [] 0 [xSig, xAll]
def zdF_ : List UInt8 := [124, 50, 58, 115, 80, 110, 49, 59, 38, 50, 58, 112, 72, 110, 50, 59, 111, 54, 59]
theorem zfp_ : w7_ xAny = true := by decide +kernel
theorem zhG_ : w5_ xAny = zdF_ := by decide +kernel
theorem zlE_ : k1_ xAny = .tuple #[.string (bs zdF_), .int .i64 0] := by
 unfold k1_; rw [zfp_, zhG_]; rfl
theorem zlF_ : k8_ v4_ q6_ zdF_ = some xAny := (zb4_ zdF_ xAny).2 ⟨zfp_, zhG_⟩
theorem zlG_ : zaD_ xAny = [[80, 110, 49, 59]] := by
 unfold zaD_; rw [if_pos zfp_]; decide +kernel
theorem zlH_ : k4_ [[83, 110, 49, 59, 116, 49, 58, 120]] [] [116, 49, 58, 120] 0 0 xAny = true := by decide +kernel
theorem zlI_ : k4_ [[83, 110, 49, 59, 116, 49, 58, 120]] [] [116, 49, 58, 121] 0 0 xAny = false := by decide +kernel
theorem zlJ_ : k4_ [] [[110, 50, 59]] [116, 49, 58, 120] 0 6 xAny = true := by decide +kernel
theorem zlK_ : k4_ [] [[110, 50, 59]] [116, 49, 58, 120] 0 5 xAny = false := by decide +kernel
theorem zak_ (w : World) (hG : GOk w) : Calls Tryz.prog 19 #[] w fun e w' => e = .returned (.bool true) ∧ Below w.heap.size w w' := by
 have HG0 := Lib.hid hG
 clear hG
 go_enter Tryz.func19, Tryz.ntmps19
 have hg0 : GL [] w w := z1_ _ _
 have hs0 : w.heap.size ≤ w.heap.size := Nat.le_refl _
 go_wp2_with fail
 refine (zbv_ [80, 110, 49, 59] _).mono ?_
 rintro e w1 ⟨rfl, hb1⟩
 have HG1 := Lib.hid (y6_ HG0.out hb1)
 have hg1 := z4_ hb1 hg0
 have hs1 := hg1.size
 go_wp2_with fail
 refine (zcn_ [72, 110, 50, 59] _).mono ?_
 rintro e w2 ⟨rfl, hb2⟩
 have HG2 := Lib.hid (y6_ HG1.out hb2)
 have hg2 := z4_ hb2 hg1
 have hs2 := hg2.size
 go_wp2_with fail
 refine (zcp_ 6 _).mono ?_
 rintro e w3 ⟨rfl, hb3⟩
 have HG3 := Lib.hid (y6_ HG2.out hb3)
 have hg3 := z4_ hb3 hg2
 have hs3 := hg3.size
 go_wp2_with fail
 have hrow4 : x2_ (fun _ => True) (w3.alloc (.cells #[.int .u8 2, .string (bs [72, 110, 50, 59]), .int .i64 0, .slice none 0 0, .int .u8 4, .string (bs []), .int .i64 6, .slice none 0 0] 25)) [xPre, xOld] w3.heap.size 0 := zfo_ (zhE_ (zbH_ [72, 110, 50, 59] si_ _ _) (zbI_ 6 om_ om_ _ _))
 have HA44 := Lib.hid ((z3_ w3 (.cells #[.int .u8 2, .string (bs [72, 110, 50, 59]), .int .i64 0, .slice none 0 0, .int .u8 4, .string (bs []), .int .i64 6, .slice none 0 0] 25)))
 have HG4 := Lib.hid (y5_ HG3.out (.cells #[.int .u8 2, .string (bs [72, 110, 50, 59]), .int .i64 0, .slice none 0 0, .int .u8 4, .string (bs []), .int .i64 6, .slice none 0 0] 25))
 have hg4 := z6_ hg3 (.cells #[.int .u8 2, .string (bs [72, 110, 50, 59]), .int .i64 0, .slice none 0 0, .int .u8 4, .string (bs []), .int .i64 6, .slice none 0 0] 25)
 have geA4 : w.heap.size ≤ w3.heap.size := by have := hg3.size; omega
 have gnA4 : gN ≤ w3.heap.size := by have := HG3.out.size; omega
 generalize (w3.alloc (.cells #[.int .u8 2, .string (bs [72, 110, 50, 59]), .int .i64 0, .slice none 0 0, .int .u8 4, .string (bs []), .int .i64 6, .slice none 0 0] 25)) = w4 at *
 generalize w3.heap.size = A4 at *
 have hs4 := hg4.size
 refine (zg1_ [xPre, xOld] A4 0 _ _ de_ de_ _ (z0_ HA44.out) trivial hrow4).mono ?_
 rintro e w5 ⟨hb5, v5, rfl, hl5⟩
 obtain ⟨ad5, c5, rfl, _⟩ := y3_ hl5
 have HL5 := Lib.hid (q9_ (q := fun _ => True) (fun _ _ _ => trivial) _ _ hl5)
 clear hl5 hrow4
 have HG5 := Lib.hid (y6_ HG4.out hb5)
 have hg5 := z4_ hb5 hg4
 have hs5 := hg5.size
 go_wp2_with fail
 have hrow6 : x2_ (fun _ => True) (w5.alloc (.cells #[.int .u8 1, .string (bs [80, 110, 49, 59]), .int .i64 0, .slice none 0 0, .int .u8 5, .string (bs []), .int .i64 0, .slice ad5 [xPre, xOld].length c5] 25)) [xSig, xAll] w5.heap.size 0 := zfo_ (zhE_ (zaO_ [80, 110, 49, 59] si_ _ _) (z7_ (z6_ (z1_ _ _) _) _ _ HL5.out))
 have HA66 := Lib.hid ((z3_ w5 (.cells #[.int .u8 1, .string (bs [80, 110, 49, 59]), .int .i64 0, .slice none 0 0, .int .u8 5, .string (bs []), .int .i64 0, .slice ad5 [xPre, xOld].length c5] 25)))
 have HG6 := Lib.hid (y5_ HG5.out (.cells #[.int .u8 1, .string (bs [80, 110, 49, 59]), .int .i64 0, .slice none 0 0, .int .u8 5, .string (bs []), .int .i64 0, .slice ad5 [xPre, xOld].length c5] 25))
 have hg6 := z6_ hg5 (.cells #[.int .u8 1, .string (bs [80, 110, 49, 59]), .int .i64 0, .slice none 0 0, .int .u8 5, .string (bs []), .int .i64 0, .slice ad5 [xPre, xOld].length c5] 25)
 have geA6 : w.heap.size ≤ w5.heap.size := by have := hg5.size; omega
 have gnA6 : gN ≤ w5.heap.size := by have := HG5.out.size; omega
 generalize (w5.alloc (.cells #[.int .u8 1, .string (bs [80, 110, 49, 59]), .int .i64 0, .slice none 0 0, .int .u8 5, .string (bs []), .int .i64 0, .slice ad5 [xPre, xOld].length c5] 25)) = w6 at *
 generalize w5.heap.size = A6 at *
 have hs6 := hg6.size
 refine (zkk_ [xSig, xAll] A6 0 _ _ de_ de_ _ (z0_ HA66.out) trivial hrow6).mono ?_
 rintro e w7 ⟨hb7, v7, rfl, hl7⟩
 obtain ⟨ad7, c7, rfl, _⟩ := y3_ hl7
 have HX7 := Lib.hid (q9_ (q := fun _ => True) (fun _ _ _ => trivial) _ _ hl7)
 clear hl7 hrow6
 have HG7 := Lib.hid (y6_ HG6.out hb7)
 have hg7 := z4_ hb7 hg6
 have hs7 := hg7.size
 go_wp2_with fail
 have HX8 := Lib.hid (z7_ (z6_ (z1_ _ _) (.cells #[.int .u8 6, .string (bs []), .int .i64 0, .slice ad7 [xSig, xAll].length c7] 25)) _ _ HX7.out)
 have HL8 := Lib.hid ((z3_ w7 (.cells #[.int .u8 6, .string (bs []), .int .i64 0, .slice ad7 [xSig, xAll].length c7] 25)))
 have HG8 := Lib.hid (y5_ HG7.out (.cells #[.int .u8 6, .string (bs []), .int .i64 0, .slice ad7 [xSig, xAll].length c7] 25))
 have hg8 := z6_ hg7 (.cells #[.int .u8 6, .string (bs []), .int .i64 0, .slice ad7 [xSig, xAll].length c7] 25)
 have geL : w.heap.size ≤ w7.heap.size := by have := hg7.size; omega
 have gnL : gN ≤ w7.heap.size := by have := HG7.out.size; omega
 generalize (w7.alloc (.cells #[.int .u8 6, .string (bs []), .int .i64 0, .slice ad7 [xSig, xAll].length c7] 25)) = w8 at *
 generalize w7.heap.size = L at *
 have hs8 := hg8.size
 refine (zbx_ xAny _ _ _ HX8.out HG8.out).mono ?_
 rintro e w9 ⟨rfl, hb9⟩
 rw [zlE_]
 have HL9 := Lib.hid (z9_ HL8.out hb9 (z0_ HL8.out))
 have HG9 := Lib.hid (y6_ HG8.out hb9)
 have hg9 := z4_ hb9 hg8
 have hs9 := hg9.size
 have HX9 := Lib.hid (z7_ (z4_ hb9 (z1_ _ _)) _ _ HX8.out)
 go_wp2_with fail
 refine (zbg_ zdF_ de_ _ HG9.out).mono ?_
 intro e w10 hp
 rw [zlF_] at hp
 obtain ⟨hb10, v10, rfl, hl10⟩ := hp
 obtain ⟨ad10, c10, rfl, _⟩ := y3_ hl10
 have HM10 := Lib.hid (q9_ (q := fun _ => True) (fun _ _ _ => trivial) _ _ hl10)
 clear hl10
 have HX10 := Lib.hid (z7_ (z4_ hb10 (z1_ _ _)) _ _ HX9.out)
 have HL10 := Lib.hid (z9_ HL9.out hb10 (z0_ HL9.out))
 have HG10 := Lib.hid (y6_ HG9.out hb10)
 have hg10 := z4_ hb10 hg9
 have hs10 := hg10.size
 have fa1 := z2_ HL10.out
 have fb1 := z5_ HL10.out
 have fl1 := z0_ HL10.out
 have flx1 : L < w10.heap.size + 1 := by omega
 have flx2 : L < w10.heap.size + 1 + 1 := by omega
 have flx3 : L < w10.heap.size + 1 + 1 + 1 := by omega
 have flx4 : L < w10.heap.size + 1 + 1 + 1 + 1 := by omega
 have flx5 : L < w10.heap.size + 1 + 1 + 1 + 1 + 1 := by omega
 go_wp2_with fail
 clear fa1 fb1 fl1
 clear flx1 flx2 flx3 flx4 flx5
 have hts := y4_ (zhF_ (w10.alloc (.cells #[.int .u8 6, .string (bs []), .int .i64 0, .slice ad10 [xSig, xAll].length c10] 25)) [83, 110, 49, 59, 116, 49, 58, 120] 22 1) (z6_ (z6_ (z6_ (z1_ _ _) (.cells #[.slice (some ⟨w10.heap.size + 1, 0, none⟩) 1 1, .slice none 0 0] 31)) (.cells #[.string (bs [110, 50, 59])] 22)) (.cells #[.slice none 0 0, .slice (some ⟨w10.heap.size + 1 + 1 + 1, 0, none⟩) 1 1] 31))
 have htp := y4_ (zhF_ (((w10.alloc (.cells #[.int .u8 6, .string (bs []), .int .i64 0, .slice ad10 [xSig, xAll].length c10] 25)).alloc (.cells #[.string (bs [83, 110, 49, 59, 116, 49, 58, 120])] 22)).alloc (.cells #[.slice (some ⟨w10.heap.size + 1, 0, none⟩) 1 1, .slice none 0 0] 31)) [110, 50, 59] 22 1) (z6_ (z1_ _ _) (.cells #[.slice none 0 0, .slice (some ⟨w10.heap.size + 1 + 1 + 1, 0, none⟩) 1 1] 31))
 rw [show (w10.alloc (.cells #[.int .u8 6, .string (bs []), .int .i64 0, .slice ad10 [xSig, xAll].length c10] 25)).heap.size = w10.heap.size + 1 by simp] at hts
 rw [show (((w10.alloc (.cells #[.int .u8 6, .string (bs []), .int .i64 0, .slice ad10 [xSig, xAll].length c10] 25)).alloc (.cells #[.string (bs [83, 110, 49, 59, 116, 49, 58, 120])] 22)).alloc (.cells #[.slice (some ⟨w10.heap.size + 1, 0, none⟩) 1 1, .slice none 0 0] 31)).heap.size = w10.heap.size + 1 + 1 + 1 by simp] at htp
 have HS11 := Lib.hid hts
 have HP11 := Lib.hid htp
 clear hts htp
 have HX11 := Lib.hid (z7_ (z6_ (z6_ (z6_ (z6_ (z6_ (z1_ _ _) (.cells #[.int .u8 6, .string (bs []), .int .i64 0, .slice ad10 [xSig, xAll].length c10] 25)) (.cells #[.string (bs [83, 110, 49, 59, 116, 49, 58, 120])] 22)) (.cells #[.slice (some ⟨w10.heap.size + 1, 0, none⟩) 1 1, .slice none 0 0] 31)) (.cells #[.string (bs [110, 50, 59])] 22)) (.cells #[.slice none 0 0, .slice (some ⟨w10.heap.size + 1 + 1 + 1, 0, none⟩) 1 1] 31)) _ _ HX10.out)
 have HM11 := Lib.hid (z7_ (z6_ (z6_ (z6_ (z6_ (z6_ (z1_ _ _) (.cells #[.int .u8 6, .string (bs []), .int .i64 0, .slice ad10 [xSig, xAll].length c10] 25)) (.cells #[.string (bs [83, 110, 49, 59, 116, 49, 58, 120])] 22)) (.cells #[.slice (some ⟨w10.heap.size + 1, 0, none⟩) 1 1, .slice none 0 0] 31)) (.cells #[.string (bs [110, 50, 59])] 22)) (.cells #[.slice none 0 0, .slice (some ⟨w10.heap.size + 1 + 1 + 1, 0, none⟩) 1 1] 31)) _ _ HM10.out)
 have HL11 := Lib.hid (z8_ (z8_ (z8_ (z8_ (z8_ HL10.out (.cells #[.int .u8 6, .string (bs []), .int .i64 0, .slice ad10 [xSig, xAll].length c10] 25)) (.cells #[.string (bs [83, 110, 49, 59, 116, 49, 58, 120])] 22)) (.cells #[.slice (some ⟨w10.heap.size + 1, 0, none⟩) 1 1, .slice none 0 0] 31)) (.cells #[.string (bs [110, 50, 59])] 22)) (.cells #[.slice none 0 0, .slice (some ⟨w10.heap.size + 1 + 1 + 1, 0, none⟩) 1 1] 31))
 have ltLMB : L < w10.heap.size := by have := z0_ HL10.out; omega
 have neLMB : L ≠ w10.heap.size := by omega
 have neMBL : w10.heap.size ≠ L := by omega
 have ltLSB : L < w10.heap.size + 1 := by have := z0_ HL10.out; omega
 have neLSB : L ≠ w10.heap.size + 1 := by omega
 have neSBL : w10.heap.size + 1 ≠ L := by omega
 have ltLW1 : L < w10.heap.size + 1 + 1 := by have := z0_ HL10.out; omega
 have neLW1 : L ≠ w10.heap.size + 1 + 1 := by omega
 have neW1L : w10.heap.size + 1 + 1 ≠ L := by omega
 have ltLPB : L < w10.heap.size + 1 + 1 + 1 := by have := z0_ HL10.out; omega
 have neLPB : L ≠ w10.heap.size + 1 + 1 + 1 := by omega
 have nePBL : w10.heap.size + 1 + 1 + 1 ≠ L := by omega
 have ltLW2 : L < w10.heap.size + 1 + 1 + 1 + 1 := by have := z0_ HL10.out; omega
 have neLW2 : L ≠ w10.heap.size + 1 + 1 + 1 + 1 := by omega
 have neW2L : w10.heap.size + 1 + 1 + 1 + 1 ≠ L := by omega
 have HMB11 := Lib.hid ((z8_ (z8_ (z8_ (z8_ (z3_ w10 (.cells #[.int .u8 6, .string (bs []), .int .i64 0, .slice ad10 [xSig, xAll].length c10] 25)) (.cells #[.string (bs [83, 110, 49, 59, 116, 49, 58, 120])] 22)) (.cells #[.slice (some ⟨w10.heap.size + 1, 0, none⟩) 1 1, .slice none 0 0] 31)) (.cells #[.string (bs [110, 50, 59])] 22)) (.cells #[.slice none 0 0, .slice (some ⟨w10.heap.size + 1 + 1 + 1, 0, none⟩) 1 1] 31)))
 have hZ_ := z3_ (w10.alloc (.cells #[.int .u8 6, .string (bs []), .int .i64 0, .slice ad10 [xSig, xAll].length c10] 25)) (.cells #[.string (bs [83, 110, 49, 59, 116, 49, 58, 120])] 22)
 rw [show (w10.alloc (.cells #[.int .u8 6, .string (bs []), .int .i64 0, .slice ad10 [xSig, xAll].length c10] 25)).heap.size = w10.heap.size + 1 by simp] at hZ_
 have HSB11 := Lib.hid ((z8_ (z8_ (z8_ hZ_ (.cells #[.slice (some ⟨w10.heap.size + 1, 0, none⟩) 1 1, .slice none 0 0] 31)) (.cells #[.string (bs [110, 50, 59])] 22)) (.cells #[.slice none 0 0, .slice (some ⟨w10.heap.size + 1 + 1 + 1, 0, none⟩) 1 1] 31)))
 clear hZ_
 have hZ_ := z3_ ((w10.alloc (.cells #[.int .u8 6, .string (bs []), .int .i64 0, .slice ad10 [xSig, xAll].length c10] 25)).alloc (.cells #[.string (bs [83, 110, 49, 59, 116, 49, 58, 120])] 22)) (.cells #[.slice (some ⟨w10.heap.size + 1, 0, none⟩) 1 1, .slice none 0 0] 31)
 rw [show ((w10.alloc (.cells #[.int .u8 6, .string (bs []), .int .i64 0, .slice ad10 [xSig, xAll].length c10] 25)).alloc (.cells #[.string (bs [83, 110, 49, 59, 116, 49, 58, 120])] 22)).heap.size = w10.heap.size + 1 + 1 by simp] at hZ_
 have HW111 := Lib.hid ((z8_ (z8_ hZ_ (.cells #[.string (bs [110, 50, 59])] 22)) (.cells #[.slice none 0 0, .slice (some ⟨w10.heap.size + 1 + 1 + 1, 0, none⟩) 1 1] 31)))
 clear hZ_
 have hZ_ := z3_ (((w10.alloc (.cells #[.int .u8 6, .string (bs []), .int .i64 0, .slice ad10 [xSig, xAll].length c10] 25)).alloc (.cells #[.string (bs [83, 110, 49, 59, 116, 49, 58, 120])] 22)).alloc (.cells #[.slice (some ⟨w10.heap.size + 1, 0, none⟩) 1 1, .slice none 0 0] 31)) (.cells #[.string (bs [110, 50, 59])] 22)
 rw [show (((w10.alloc (.cells #[.int .u8 6, .string (bs []), .int .i64 0, .slice ad10 [xSig, xAll].length c10] 25)).alloc (.cells #[.string (bs [83, 110, 49, 59, 116, 49, 58, 120])] 22)).alloc (.cells #[.slice (some ⟨w10.heap.size + 1, 0, none⟩) 1 1, .slice none 0 0] 31)).heap.size = w10.heap.size + 1 + 1 + 1 by simp] at hZ_
 have HPB11 := Lib.hid ((z8_ hZ_ (.cells #[.slice none 0 0, .slice (some ⟨w10.heap.size + 1 + 1 + 1, 0, none⟩) 1 1] 31)))
 clear hZ_
 have hZ_ := z3_ ((((w10.alloc (.cells #[.int .u8 6, .string (bs []), .int .i64 0, .slice ad10 [xSig, xAll].length c10] 25)).alloc (.cells #[.string (bs [83, 110, 49, 59, 116, 49, 58, 120])] 22)).alloc (.cells #[.slice (some ⟨w10.heap.size + 1, 0, none⟩) 1 1, .slice none 0 0] 31)).alloc (.cells #[.string (bs [110, 50, 59])] 22)) (.cells #[.slice none 0 0, .slice (some ⟨w10.heap.size + 1 + 1 + 1, 0, none⟩) 1 1] 31)
 rw [show ((((w10.alloc (.cells #[.int .u8 6, .string (bs []), .int .i64 0, .slice ad10 [xSig, xAll].length c10] 25)).alloc (.cells #[.string (bs [83, 110, 49, 59, 116, 49, 58, 120])] 22)).alloc (.cells #[.slice (some ⟨w10.heap.size + 1, 0, none⟩) 1 1, .slice none 0 0] 31)).alloc (.cells #[.string (bs [110, 50, 59])] 22)).heap.size = w10.heap.size + 1 + 1 + 1 + 1 by simp] at hZ_
 have HW211 := Lib.hid (hZ_)
 clear hZ_
 have HG11 := Lib.hid (y5_ (y5_ (y5_ (y5_ (y5_ HG10.out (.cells #[.int .u8 6, .string (bs []), .int .i64 0, .slice ad10 [xSig, xAll].length c10] 25)) (.cells #[.string (bs [83, 110, 49, 59, 116, 49, 58, 120])] 22)) (.cells #[.slice (some ⟨w10.heap.size + 1, 0, none⟩) 1 1, .slice none 0 0] 31)) (.cells #[.string (bs [110, 50, 59])] 22)) (.cells #[.slice none 0 0, .slice (some ⟨w10.heap.size + 1 + 1 + 1, 0, none⟩) 1 1] 31))
 have hg11 := z6_ (z6_ (z6_ (z6_ (z6_ hg10 (.cells #[.int .u8 6, .string (bs []), .int .i64 0, .slice ad10 [xSig, xAll].length c10] 25)) (.cells #[.string (bs [83, 110, 49, 59, 116, 49, 58, 120])] 22)) (.cells #[.slice (some ⟨w10.heap.size + 1, 0, none⟩) 1 1, .slice none 0 0] 31)) (.cells #[.string (bs [110, 50, 59])] 22)) (.cells #[.slice none 0 0, .slice (some ⟨w10.heap.size + 1 + 1 + 1, 0, none⟩) 1 1] 31)
 have geMB : w.heap.size ≤ w10.heap.size := by have := hg10.size; omega
 have gnMB : gN ≤ w10.heap.size := by have := HG10.out.size; omega
 have geSB : w.heap.size ≤ w10.heap.size + 1 := by have := hg10.size; omega
 have gnSB : gN ≤ w10.heap.size + 1 := by have := HG10.out.size; omega
 have ltMBSB : w10.heap.size < w10.heap.size + 1 := by omega
 have neMBSB : w10.heap.size ≠ w10.heap.size + 1 := by omega
 have neSBMB : w10.heap.size + 1 ≠ w10.heap.size := by omega
 have geW1 : w.heap.size ≤ w10.heap.size + 1 + 1 := by have := hg10.size; omega
 have gnW1 : gN ≤ w10.heap.size + 1 + 1 := by have := HG10.out.size; omega
 have ltMBW1 : w10.heap.size < w10.heap.size + 1 + 1 := by omega
 have neMBW1 : w10.heap.size ≠ w10.heap.size + 1 + 1 := by omega
 have neW1MB : w10.heap.size + 1 + 1 ≠ w10.heap.size := by omega
 have ltSBW1 : w10.heap.size + 1 < w10.heap.size + 1 + 1 := by omega
 have neSBW1 : w10.heap.size + 1 ≠ w10.heap.size + 1 + 1 := by omega
 have neW1SB : w10.heap.size + 1 + 1 ≠ w10.heap.size + 1 := by omega
 have gePB : w.heap.size ≤ w10.heap.size + 1 + 1 + 1 := by have := hg10.size; omega
 have gnPB : gN ≤ w10.heap.size + 1 + 1 + 1 := by have := HG10.out.size; omega
 have ltMBPB : w10.heap.size < w10.heap.size + 1 + 1 + 1 := by omega
 have neMBPB : w10.heap.size ≠ w10.heap.size + 1 + 1 + 1 := by omega
 have nePBMB : w10.heap.size + 1 + 1 + 1 ≠ w10.heap.size := by omega
 have ltSBPB : w10.heap.size + 1 < w10.heap.size + 1 + 1 + 1 := by omega
 have neSBPB : w10.heap.size + 1 ≠ w10.heap.size + 1 + 1 + 1 := by omega
 have nePBSB : w10.heap.size + 1 + 1 + 1 ≠ w10.heap.size + 1 := by omega
 have ltW1PB : w10.heap.size + 1 + 1 < w10.heap.size + 1 + 1 + 1 := by omega
 have neW1PB : w10.heap.size + 1 + 1 ≠ w10.heap.size + 1 + 1 + 1 := by omega
 have nePBW1 : w10.heap.size + 1 + 1 + 1 ≠ w10.heap.size + 1 + 1 := by omega
 have geW2 : w.heap.size ≤ w10.heap.size + 1 + 1 + 1 + 1 := by have := hg10.size; omega
 have gnW2 : gN ≤ w10.heap.size + 1 + 1 + 1 + 1 := by have := HG10.out.size; omega
 have ltMBW2 : w10.heap.size < w10.heap.size + 1 + 1 + 1 + 1 := by omega
 have neMBW2 : w10.heap.size ≠ w10.heap.size + 1 + 1 + 1 + 1 := by omega
 have neW2MB : w10.heap.size + 1 + 1 + 1 + 1 ≠ w10.heap.size := by omega
 have ltSBW2 : w10.heap.size + 1 < w10.heap.size + 1 + 1 + 1 + 1 := by omega
 have neSBW2 : w10.heap.size + 1 ≠ w10.heap.size + 1 + 1 + 1 + 1 := by omega
 have neW2SB : w10.heap.size + 1 + 1 + 1 + 1 ≠ w10.heap.size + 1 := by omega
 have ltW1W2 : w10.heap.size + 1 + 1 < w10.heap.size + 1 + 1 + 1 + 1 := by omega
 have neW1W2 : w10.heap.size + 1 + 1 ≠ w10.heap.size + 1 + 1 + 1 + 1 := by omega
 have neW2W1 : w10.heap.size + 1 + 1 + 1 + 1 ≠ w10.heap.size + 1 + 1 := by omega
 have ltPBW2 : w10.heap.size + 1 + 1 + 1 < w10.heap.size + 1 + 1 + 1 + 1 := by omega
 have nePBW2 : w10.heap.size + 1 + 1 + 1 ≠ w10.heap.size + 1 + 1 + 1 + 1 := by omega
 have neW2PB : w10.heap.size + 1 + 1 + 1 + 1 ≠ w10.heap.size + 1 + 1 + 1 := by omega
 generalize (((((w10.alloc (.cells #[.int .u8 6, .string (bs []), .int .i64 0, .slice ad10 [xSig, xAll].length c10] 25)).alloc (.cells #[.string (bs [83, 110, 49, 59, 116, 49, 58, 120])] 22)).alloc (.cells #[.slice (some ⟨w10.heap.size + 1, 0, none⟩) 1 1, .slice none 0 0] 31)).alloc (.cells #[.string (bs [110, 50, 59])] 22)).alloc (.cells #[.slice none 0 0, .slice (some ⟨w10.heap.size + 1 + 1 + 1, 0, none⟩) 1 1] 31)) = w11 at *
 generalize w10.heap.size + 1 + 1 + 1 + 1 = W2 at *
 generalize w10.heap.size + 1 + 1 + 1 = PB at *
 generalize w10.heap.size + 1 + 1 = W1 at *
 generalize w10.heap.size + 1 = SB at *
 generalize w10.heap.size = MB at *
 have hs11 := hg11.size
 refine (zah_ xAny xAny _ _ _ _ _ HX11.out HM11.out).mono ?_
 rintro e w12 ⟨rfl, hb12⟩
 rw [zbd_]
 have HL12 := Lib.hid (z9_ HL11.out hb12 (z0_ HL11.out))
 have HW212 := Lib.hid (z9_ HW211.out hb12 (z0_ HW211.out))
 have HPB12 := Lib.hid (z9_ HPB11.out hb12 (z0_ HPB11.out))
 have HW112 := Lib.hid (z9_ HW111.out hb12 (z0_ HW111.out))
 have HSB12 := Lib.hid (z9_ HSB11.out hb12 (z0_ HSB11.out))
 have HMB12 := Lib.hid (z9_ HMB11.out hb12 (z0_ HMB11.out))
 have HG12 := Lib.hid (y6_ HG11.out hb12)
 have hg12 := z4_ hb12 hg11
 have hs12 := hg12.size
 have HX12 := Lib.hid (z7_ (z4_ hb12 (z1_ _ _)) _ _ HX11.out)
 have HM12 := Lib.hid (z7_ (z4_ hb12 (z1_ _ _)) _ _ HM11.out)
 have HS12 := Lib.hid (y4_ HS11.out (z4_ hb12 (z1_ _ _)))
 have HP12 := Lib.hid (y4_ HP11.out (z4_ hb12 (z1_ _ _)))
 have fa2 := z2_ HL12.out
 have fb2 := z5_ HL12.out
 have fl2 := z0_ HL12.out
 have fa3 := z2_ HW112.out
 have fb3 := z5_ HW112.out
 have fl3 := z0_ HW112.out
 go_wp2_with fail
 refine (zaV_ xAny _ _ _ _ [[83, 110, 49, 59, 116, 49, 58, 120]] [] [116, 49, 58, 120] 0 0 _ HX12.out HS12.out (.inl ⟨none, 0, rfl, rfl⟩) si_ si_ si_ si_ om_ om_ HG12.out).mono ?_
 rintro e w13 ⟨rfl, hb13⟩
 rw [zlH_]
 clear fa2 fb2 fl2 fa3 fb3 fl3
 have HL13 := Lib.hid (z9_ HL12.out hb13 (z0_ HL12.out))
 have HW213 := Lib.hid (z9_ HW212.out hb13 (z0_ HW212.out))
 have HPB13 := Lib.hid (z9_ HPB12.out hb13 (z0_ HPB12.out))
 have HW113 := Lib.hid (z9_ HW112.out hb13 (z0_ HW112.out))
 have HSB13 := Lib.hid (z9_ HSB12.out hb13 (z0_ HSB12.out))
 have HMB13 := Lib.hid (z9_ HMB12.out hb13 (z0_ HMB12.out))
 have HG13 := Lib.hid (y6_ HG12.out hb13)
 have hg13 := z4_ hb13 hg12
 have hs13 := hg13.size
 have HX13 := Lib.hid (z7_ (z4_ hb13 (z1_ _ _)) _ _ HX12.out)
 have HM13 := Lib.hid (z7_ (z4_ hb13 (z1_ _ _)) _ _ HM12.out)
 have HS13 := Lib.hid (y4_ HS12.out (z4_ hb13 (z1_ _ _)))
 have HP13 := Lib.hid (y4_ HP12.out (z4_ hb13 (z1_ _ _)))
 have fa4 := z2_ HL13.out
 have fb4 := z5_ HL13.out
 have fl4 := z0_ HL13.out
 have fa5 := z2_ HW113.out
 have fb5 := z5_ HW113.out
 have fl5 := z0_ HW113.out
 go_wp2_with fail
 refine (zaV_ xAny _ _ _ _ [[83, 110, 49, 59, 116, 49, 58, 120]] [] [116, 49, 58, 121] 0 0 _ HX13.out HS13.out (.inl ⟨none, 0, rfl, rfl⟩) si_ si_ si_ si_ om_ om_ HG13.out).mono ?_
 rintro e w14 ⟨rfl, hb14⟩
 rw [zlI_]
 clear fa4 fb4 fl4 fa5 fb5 fl5
 have HL14 := Lib.hid (z9_ HL13.out hb14 (z0_ HL13.out))
 have HW214 := Lib.hid (z9_ HW213.out hb14 (z0_ HW213.out))
 have HPB14 := Lib.hid (z9_ HPB13.out hb14 (z0_ HPB13.out))
 have HW114 := Lib.hid (z9_ HW113.out hb14 (z0_ HW113.out))
 have HSB14 := Lib.hid (z9_ HSB13.out hb14 (z0_ HSB13.out))
 have HMB14 := Lib.hid (z9_ HMB13.out hb14 (z0_ HMB13.out))
 have HG14 := Lib.hid (y6_ HG13.out hb14)
 have hg14 := z4_ hb14 hg13
 have hs14 := hg14.size
 have HX14 := Lib.hid (z7_ (z4_ hb14 (z1_ _ _)) _ _ HX13.out)
 have HM14 := Lib.hid (z7_ (z4_ hb14 (z1_ _ _)) _ _ HM13.out)
 have HS14 := Lib.hid (y4_ HS13.out (z4_ hb14 (z1_ _ _)))
 have HP14 := Lib.hid (y4_ HP13.out (z4_ hb14 (z1_ _ _)))
 have fa6 := z2_ HL14.out
 have fb6 := z5_ HL14.out
 have fl6 := z0_ HL14.out
 have fa7 := z2_ HW214.out
 have fb7 := z5_ HW214.out
 have fl7 := z0_ HW214.out
 go_wp2_with fail
 refine (zaV_ xAny _ _ _ _ [] [[110, 50, 59]] [116, 49, 58, 120] 0 6 _ HX14.out (.inl ⟨none, 0, rfl, rfl⟩) HP14.out si_ si_ si_ si_ om_ om_ HG14.out).mono ?_
 rintro e w15 ⟨rfl, hb15⟩
 rw [zlJ_]
 clear fa6 fb6 fl6 fa7 fb7 fl7
 have HL15 := Lib.hid (z9_ HL14.out hb15 (z0_ HL14.out))
 have HW215 := Lib.hid (z9_ HW214.out hb15 (z0_ HW214.out))
 have HPB15 := Lib.hid (z9_ HPB14.out hb15 (z0_ HPB14.out))
 have HW115 := Lib.hid (z9_ HW114.out hb15 (z0_ HW114.out))
 have HSB15 := Lib.hid (z9_ HSB14.out hb15 (z0_ HSB14.out))
 have HMB15 := Lib.hid (z9_ HMB14.out hb15 (z0_ HMB14.out))
 have HG15 := Lib.hid (y6_ HG14.out hb15)
 have hg15 := z4_ hb15 hg14
 have hs15 := hg15.size
 have HX15 := Lib.hid (z7_ (z4_ hb15 (z1_ _ _)) _ _ HX14.out)
 have HM15 := Lib.hid (z7_ (z4_ hb15 (z1_ _ _)) _ _ HM14.out)
 have HS15 := Lib.hid (y4_ HS14.out (z4_ hb15 (z1_ _ _)))
 have HP15 := Lib.hid (y4_ HP14.out (z4_ hb15 (z1_ _ _)))
 have fa8 := z2_ HL15.out
 have fb8 := z5_ HL15.out
 have fl8 := z0_ HL15.out
 have fa9 := z2_ HW215.out
 have fb9 := z5_ HW215.out
 have fl9 := z0_ HW215.out
 go_wp2_with fail
 refine (zaV_ xAny _ _ _ _ [] [[110, 50, 59]] [116, 49, 58, 120] 0 5 _ HX15.out (.inl ⟨none, 0, rfl, rfl⟩) HP15.out si_ si_ si_ si_ om_ om_ HG15.out).mono ?_
 rintro e w16 ⟨rfl, hb16⟩
 rw [zlK_]
 clear fa8 fb8 fl8 fa9 fb9 fl9
 have HL16 := Lib.hid (z9_ HL15.out hb16 (z0_ HL15.out))
 have HW216 := Lib.hid (z9_ HW215.out hb16 (z0_ HW215.out))
 have HPB16 := Lib.hid (z9_ HPB15.out hb16 (z0_ HPB15.out))
 have HW116 := Lib.hid (z9_ HW115.out hb16 (z0_ HW115.out))
 have HSB16 := Lib.hid (z9_ HSB15.out hb16 (z0_ HSB15.out))
 have HMB16 := Lib.hid (z9_ HMB15.out hb16 (z0_ HMB15.out))
 have HG16 := Lib.hid (y6_ HG15.out hb16)
 have hg16 := z4_ hb16 hg15
 have hs16 := hg16.size
 have HX16 := Lib.hid (z7_ (z4_ hb16 (z1_ _ _)) _ _ HX15.out)
 have HM16 := Lib.hid (z7_ (z4_ hb16 (z1_ _ _)) _ _ HM15.out)
 have HS16 := Lib.hid (y4_ HS15.out (z4_ hb16 (z1_ _ _)))
 have HP16 := Lib.hid (y4_ HP15.out (z4_ hb16 (z1_ _ _)))
 have fa10 := z2_ HL16.out
 have fb10 := z5_ HL16.out
 have fl10 := z0_ HL16.out
 go_wp2_with fail
 refine (zhu_ xAny _ _ _ HX16.out HG16.out).mono ?_
 rintro e w17 ⟨hb17, u, rfl, hu⟩
 rw [zlG_] at hu
 obtain ⟨ua, uc, rfl, _⟩ := za6_ hu
 clear hu
 go_wp2_with fail
 go_ret
 exact ⟨rfl, x0_ (z4_ hb17 hg16)⟩
theorem zhH_ (sa pa : Option Addr) (sc pc : Nat) (sigs pres : List (List UInt8)) (msg : List UInt8) (w : World) (hS : x5_ (.slice sa sigs.length sc) sigs w) (hP : x5_ (.slice pa pres.length pc) pres w) (hsn : sigs.length ≤ 9000000000000000000) (hpn : pres.length ≤ 9000000000000000000) :
  Calls Tryz.prog 36 #[.agg #[.slice sa sigs.length sc, .slice pa pres.length pc], .string (bs msg)] w fun e w' => Below w.heap.size w w' ∧ zlC_ e := by
 have HS := Lib.hid hS
 have HP := Lib.hid hP
 clear hS hP
 go_enter Tryz.func36, Tryz.ntmps36
 go_wp2
 go_loopw [5, 6] (fun nv iv wr => ∃ (j : Nat) (s : Int), j ≤ sigs.length ∧ iv = .int .i64 j ∧ nv = .int .i64 s ∧ Hid (wr.heap[w.heap.size]? = some (.cells #[.slice sa sigs.length sc, .slice pa pres.length pc] 31 (0, 0))) ∧ Hid (GL [] w wr)) (fun _ iv _ => sigs.length - (intOf iv).toNat)
 case atStart => exact ⟨0, _, by omega, rfl, rfl, Lib.hid (z3_ w _), Lib.hid gl_⟩
 case round =>
  obtain ⟨j, s, hj, rfl, rfl, H1, hgr⟩ := hrel
  have f1 := z2_ H1.out
  have e1 := z5_ H1.out
  by_cases hlt : j < sigs.length
  · have i1 : (j : Int) < sigs.length := by omega
    rcases HS.out with ⟨_, _, h0, h1⟩ | ⟨b, o, c, h0, hb, hc⟩
    · subst h1; simp at hlt
    injection h0 with h01 h02 h03
    subst h01 h03
    have hx : sigs[j]? = some sigs[j] := List.getElem?_eq_getElem hlt
    have c0 : wr.cell? ⟨b, o + j, none⟩ = some (.string (bs sigs[j])) := by
     have := hc j _ hx
     simp only [World.cell?, hgr.out.block b hb si_] at this ⊢
     exact this
    generalize sigs[j] = tt at *
    clear hc hx HS h02
    go_wp2
    go_roundw
    case rel => exact ⟨j + 1, _, by omega, by go_num, rfl, H1, hgr⟩
    case measure => simp [intOf]; omega
  · obtain rfl : j = sigs.length := by omega
    have i4 : decide ((sigs.length : Int) < sigs.length) = false := by simp
    go_wp2
    go_loopw [5, 7] (fun nv iv wr => ∃ (j : Nat) (s : Int), j ≤ pres.length ∧ iv = .int .i64 j ∧ nv = .int .i64 s ∧ Hid (wr.heap[w.heap.size]? = some (.cells #[.slice sa sigs.length sc, .slice pa pres.length pc] 31 (0, 0))) ∧ Hid (GL [] w wr)) (fun _ iv _ => pres.length - (intOf iv).toNat)
    case atStart => exact ⟨0, _, by omega, rfl, rfl, H1, hgr⟩
    case round =>
     obtain ⟨j, s, hj, rfl, rfl, H1, hgr⟩ := hrel
     have f1 := z2_ H1.out
     have e1 := z5_ H1.out
     by_cases hlt : j < pres.length
     · have i1 : (j : Int) < pres.length := by omega
       rcases HP.out with ⟨_, _, h0, h1⟩ | ⟨b, o, c, h0, hb, hc⟩
       · subst h1; simp at hlt
       injection h0 with h01 h02 h03
       subst h01 h03
       have hx : pres[j]? = some pres[j] := List.getElem?_eq_getElem hlt
       have c0 : wr.cell? ⟨b, o + j, none⟩ = some (.string (bs pres[j])) := by
        have := hc j _ hx
        simp only [World.cell?, hgr.out.block b hb si_] at this ⊢
        exact this
       generalize pres[j] = tt at *
       clear hc hx HP h02
       go_wp2
       go_roundw
       case rel => exact ⟨j + 1, _, by omega, by go_num, rfl, H1, hgr⟩
       case measure => simp [intOf]; omega
     · obtain rfl : j = pres.length := by omega
       have i4 : decide ((pres.length : Int) < pres.length) = false := by simp
       go_wp2
       all_goals
        go_ret
        exact ⟨x0_ hgr.out, ⟨_, rfl⟩⟩
theorem zhI_ (w : World) : Calls Tryz.prog 20 #[.slice none 0 0] w fun e w' => e = .returned (.slice none 0 0) ∧ Below w.heap.size w w' := by
 have hsn : ∀ w : World, (binOp .eql 23 (.slice none 0 0) (.slice none 0 0)).run Tryz.prog w = .ok (.bool true) w := fun _ => by kernel_rfl
 go_enter Tryz.func20, Tryz.ntmps20
 go_wp2
 go_ret
 exact ⟨rfl, Below.refl _ _⟩
theorem zbL_ {q : Nat → Prop} {w w' : World} (hg : GL [] w w') : ∀ (l : List LT) (b o : Nat), b < w.heap.size → x2_ q w l b o → x2_ q w' l b o
 | [], _, _, _, _ => by unfold x2_; trivial
 | x :: r, b, o, hb, h => by
   unfold x2_ at h ⊢
   obtain ⟨⟨c0, c1, c2, c3, hx, g0, g1, g2, g3⟩, hr⟩ := h
   have hc : ∀ j, w'.cell? ⟨b, j, none⟩ = w.cell? ⟨b, j, none⟩ := fun j => by simp only [World.cell?, hg.block b hb si_]
   exact ⟨⟨c0, c1, c2, c3, z7_ hg x _ hx, by rw [hc]; exact g0, by rw [hc]; exact g1, by rw [hc]; exact g2, by rw [hc]; exact g3⟩, zbL_ hg r b (o + 4) hb hr⟩
theorem zfq_ (w : World) : Calls Tryz.prog 5 #[.slice none 0 0] w fun e w' => e = .returned (.agg #[.int .u8 5, .string (bs []), .int .i64 0, .slice none 0 0]) ∧ Below w.heap.size w w' := by
 have hc := zhI_
 go_enter Tryz.func5, Tryz.ntmps5
 go_wp2_with fail
 refine (hc _).mono ?_
 rintro e w1 ⟨rfl, hb1⟩
 have g1 := z9_ (z3_ w zl_) hb1 si_
 have f1 := z2_ g1
 have e1 := z5_ g1
 have l1 := z0_ g1
 clear g1
 go_wp2_with fail
 refine bodyPost_ret (v := .agg #[.int .u8 5, .string (bs []), .int .i64 0, .slice none 0 0]) (by simp [results, Tryz.results5, go_sem, f1, e1]) rfl ⟨rfl, ?_⟩
 exact bl_
theorem zfr_ (w : World) : Calls Tryz.prog 9 #[.slice none 0 0] w fun e w' => e = .returned (.agg #[.int .u8 6, .string (bs []), .int .i64 0, .slice none 0 0]) ∧ Below w.heap.size w w' := by
 have hc := zhI_
 go_enter Tryz.func9, Tryz.ntmps9
 go_wp2_with fail
 refine (hc _).mono ?_
 rintro e w1 ⟨rfl, hb1⟩
 have g1 := z9_ (z3_ w zl_) hb1 si_
 have f1 := z2_ g1
 have e1 := z5_ g1
 have l1 := z0_ g1
 clear g1
 go_wp2_with fail
 refine bodyPost_ret (v := .agg #[.int .u8 6, .string (bs []), .int .i64 0, .slice none 0 0]) (by simp [results, Tryz.results9, go_sem, f1, e1]) rfl ⟨rfl, ?_⟩
 exact bl_
theorem zhJ_ (kids : List LT) (b o c : Nat) (q : Nat → Prop) (hm : 0 < kids.length) (hk : kids.length ≤ 1000) (w : World) (hb : b < w.heap.size) (hr : x2_ q w kids b o) :
  Calls Tryz.prog 20 #[.slice (some ⟨b, o, none⟩) kids.length c] w fun e w' => Below w.heap.size w w' ∧ ∃ g cap, e = .returned (.slice (some ⟨g, 0, none⟩) kids.length cap) ∧ w.heap.size ≤ g ∧ g < w'.heap.size ∧ x2_ q w' kids g 0 := by
 obtain ⟨cs, hv, hcs⟩ := zd2_ kids o hr
 have hlen := zd0_ kids cs hv
 have hone := zd5_ kids cs hv
 obtain ⟨i0, hi0, hi1, hi2, hi3⟩ := info_parts Tryz.infoLock
 have HV := Lib.hid hv
 have HC := Lib.hid hcs
 have HO := Lib.hid hone
 clear hr hv hcs hone
 have hsn : ∀ (b o n c : Nat) (w : World), (binOp .eql 23 (.slice (some ⟨b, o, none⟩) n c) (.slice none 0 0)).run Tryz.prog w = .ok (.bool false) w := fun _ _ _ _ _ => by kernel_rfl
 go_enter Tryz.func20, Tryz.ntmps20
 go_wp2_with (at_builtin; go_must (refine wpList_append_own _ rfl _ _ 23 rfl w.heap.size 25 i0 (.agg #[.int .u8 0, .string ByteArray.empty, .int .i64 0, .slice none 0 0]) 4 56 Tryz.underlying23 hi0 hi1 hi2 hi3 rfl de_ _ 0 [] rfl ?own ⟨b, o, none⟩ kids.length c cs rfl hlen ?c1 HO.out ?c3 ?c4 ?c5 ?_; (case own => (refine ⟨rfl, .inr ⟨w.heap.size, 0, #[], rfl, Nat.le_refl _, ?_, Nat.le_refl _, by decide, rfl, rfl⟩⟩; exact z3_ _ _)); (case c1 => (intro j u hj; rw [Addr.add_lit]; have := HC.out j u hj; exact zbY_ this _)); (case c3 => (unfold maxLen; omega)); (case c4 => omega); (case c5 => (simp)); (intro v' w4 hown4 hgr4 _); (obtain ⟨ad4, n4, cp4, hv4⟩ := zai_ hown4); (subst hv4)))
 go_wp2
 go_ret
 have hgl : GL [] w w4 := zaL_ hgr4 (z6_ (z1_ _ _) _) (fun r hr => by
  have hr2 : (Value.slice (some ⟨w.heap.size, 0, none⟩) 0 0).ownBlock = some r := hr
  right; simp [Value.ownBlock] at hr2; omega)
 have hbl := x0_ hgl
 refine ⟨hbl, ?_⟩
 rw [List.nil_append, Nat.zero_add] at hown4
 obtain ⟨g, cap, e, h1, h2, h3⟩ := zc1_ hown4 hm rfl (zc0_ (ze7_ hbl) (fun _ _ h => h) kids cs HV.out)
 exact ⟨g, cap, by rw [← e]; rfl, h1, h2, h3⟩
theorem zb7_ (kids : List LT) (b o c : Nat) (q : Nat → Prop) (hm : 0 < kids.length) (hk : kids.length ≤ 1000) (w : World) (hb : b < w.heap.size) (hr : x2_ q w kids b o) :
  Calls Tryz.prog 5 #[.slice (some ⟨b, o, none⟩) kids.length c] w fun e w' => Below w.heap.size w w' ∧ ∃ v, e = .returned v ∧ y2_ (fun b => q b ∨ w.heap.size ≤ b) w' (.mk 5 [] 0 kids) v := by
 have hc := fun (W : World) (hgw : GL [] w W) => zhJ_ kids b o c (fun b => q b ∧ b < w.heap.size) hm hk W (Nat.lt_of_lt_of_le hb hgw.size) (zbL_ hgw kids b o hb (zbs_ (fun b hb h => ⟨h, hb⟩) kids b o hr))
 have HC := Lib.hid hc
 clear hc hr
 go_enter Tryz.func5, Tryz.ntmps5
 go_wp2_with fail
 refine (HC.out _ gl_).mono ?_
 rintro e w1 ⟨hb1, g, cap, rfl, h1, h2, h3⟩
 have g1 := z9_ (z3_ w zl_) hb1 si_
 have f1 := z2_ g1
 have e1 := z5_ g1
 have l1 := z0_ g1
 clear g1
 have H3 := Lib.hid h3
 clear h3
 simp at h1
 go_wp2_with fail
 refine bodyPost_ret (v := .agg #[.int .u8 5, .string (bs []), .int .i64 0, .slice (some ⟨g, 0, none⟩) kids.length cap]) (by simp [results, Tryz.results5, go_sem, f1, e1]) rfl ⟨?_, _, rfl, ?_⟩
 · exact bl_
 · unfold y2_
   refine ⟨by omega, by omega, by simp, by omega, _, rfl, .inr ⟨g, 0, cap, rfl, by simp; omega, .inr om_, ?_⟩⟩
   refine zbE_ (p := fun b => b ≠ w.heap.size ∧ (q b ∨ w.heap.size ≤ b)) (w := w1) ⟨by simp, fun b hb hp => ?_⟩ (fun b _ h => h.2) kids g 0 h2 ⟨by omega, .inr om_⟩ (zbs_ (fun b hb h => ⟨by omega, .inl h.1⟩) kids g 0 H3.out)
   repeat (rw [Below.heap_setCell _ _ _ _ (by simpa using hp.1)])
theorem zde_ (kids : List LT) (b o c : Nat) (q : Nat → Prop) (hm : 0 < kids.length) (hk : kids.length ≤ 1000) (w : World) (hb : b < w.heap.size) (hr : x2_ q w kids b o) :
  Calls Tryz.prog 9 #[.slice (some ⟨b, o, none⟩) kids.length c] w fun e w' => Below w.heap.size w w' ∧ ∃ v, e = .returned v ∧ y2_ (fun b => q b ∨ w.heap.size ≤ b) w' (.mk 6 [] 0 kids) v := by
 have hc := fun (W : World) (hgw : GL [] w W) => zhJ_ kids b o c (fun b => q b ∧ b < w.heap.size) hm hk W (Nat.lt_of_lt_of_le hb hgw.size) (zbL_ hgw kids b o hb (zbs_ (fun b hb h => ⟨h, hb⟩) kids b o hr))
 have HC := Lib.hid hc
 clear hc hr
 go_enter Tryz.func9, Tryz.ntmps9
 go_wp2_with fail
 refine (HC.out _ gl_).mono ?_
 rintro e w1 ⟨hb1, g, cap, rfl, h1, h2, h3⟩
 have g1 := z9_ (z3_ w zl_) hb1 si_
 have f1 := z2_ g1
 have e1 := z5_ g1
 have l1 := z0_ g1
 clear g1
 have H3 := Lib.hid h3
 clear h3
 simp at h1
 go_wp2_with fail
 refine bodyPost_ret (v := .agg #[.int .u8 6, .string (bs []), .int .i64 0, .slice (some ⟨g, 0, none⟩) kids.length cap]) (by simp [results, Tryz.results9, go_sem, f1, e1]) rfl ⟨?_, _, rfl, ?_⟩
 · exact bl_
 · unfold y2_
   refine ⟨by omega, by omega, by simp, by omega, _, rfl, .inr ⟨g, 0, cap, rfl, by simp; omega, .inr om_, ?_⟩⟩
   refine zbE_ (p := fun b => b ≠ w.heap.size ∧ (q b ∨ w.heap.size ≤ b)) (w := w1) ⟨by simp, fun b hb hp => ?_⟩ (fun b _ h => h.2) kids g 0 h2 ⟨by omega, .inr om_⟩ (zbs_ (fun b hb h => ⟨by omega, .inl h.1⟩) kids g 0 H3.out)
   repeat (rw [Below.heap_setCell _ _ _ _ (by simpa using hp.1)])
def zaW_ : Nat → LT
 | 0 => .mk 3 [] 1 []
 | n + 1 => .mk 6 [] 0 [zaW_ n]
def zfs_ (L R : Nat) (w0 wr : World) (i : Nat) : Prop :=
 ∃ (k m : Int) (ad : Option Addr) (ln c : Nat), wr.heap[L]? = some (.cells #[.int .u8 k, .string (bs []), .int .i64 m, .slice ad ln c] 25 (0, 0)) ∧
  y2_ (fun b => b ≠ L ∧ b ≠ R) wr (zaW_ i) (.agg #[.int .u8 k, .string (bs []), .int .i64 m, .slice ad ln c]) ∧ GL [] w0 wr
theorem zlL_ {w : World} {B T : Nat} {a b c d v0 v1 v2 v3 : Value} (h : w.heap[B]? = some (.cells #[a, b, c, d] T (0, 0))) : ((((w.setCell ⟨B, 0, none⟩ v0).setCell ⟨B, 1, none⟩ v1).setCell ⟨B, 2, none⟩ v2).setCell ⟨B, 3, none⟩ v3).heap[B]? = some (.cells #[v0, v1, v2, v3] T (0, 0)) :=
 x7_ (x7_ (x7_ (x7_ h 0 v0) 1 v1) 2 v2) 3 v3
theorem zei_ {rs : List Nat} {w w1 : World} {A : Nat} {v0 v1 v2 v3 : Value} (hp : A ∈ rs ∨ w.heap.size ≤ A) (h : GL rs w w1) : GL rs w ((((w1.setCell ⟨A, 0, none⟩ v0).setCell ⟨A, 1, none⟩ v1).setCell ⟨A, 2, none⟩ v2).setCell ⟨A, 3, none⟩ v3) :=
 x6_ (x6_ (x6_ (x6_ h (p := ⟨A, 0, none⟩) hp v0) (p := ⟨A, 1, none⟩) hp v1) (p := ⟨A, 2, none⟩) hp v2) (p := ⟨A, 3, none⟩) hp v3
theorem zlM_ {L R : Nat} (hR : R < L) {w0 wr w1 : World} {i : Nat} {k m : Int} {ad ad2 : Option Addr} {ln c ln2 c2 : Nat} (hL : w0.heap.size ≤ L)
  (hb : wr.heap[L]? = some (.cells #[.int .u8 k, .string (bs []), .int .i64 m, .slice ad ln c] 25 (0, 0))) (hg : GL [] w0 wr)
  (W : World) (hW : GL [] wr W) (hb1 : Below W.heap.size W w1) (hl : y2_ (fun b => (b ≠ L ∧ b ≠ R) ∨ W.heap.size ≤ b) w1 (.mk 6 [] 0 [zaW_ i]) (.agg #[.int .u8 6, .string (bs []), .int .i64 0, .slice ad2 ln2 c2])) :
  zfs_ L R w0 ((((w1.setCell ⟨L, 0, none⟩ (.int .u8 6)).setCell ⟨L, 1, none⟩ (.string (bs []))).setCell ⟨L, 2, none⟩ (.int .i64 0)).setCell ⟨L, 3, none⟩ (.slice ad2 ln2 c2)) (i + 1) := by
 have h1 := z4_ hb1 hW
 have hlt := z0_ hb
 refine ⟨6, 0, ad2, ln2, c2, zlL_ (y7_ hb h1 si_), ?_, zei_ (.inr hL) (x1_ h1 hg si_)⟩
 have hs : GL [L] w1 ((((w1.setCell ⟨L, 0, none⟩ (.int .u8 6)).setCell ⟨L, 1, none⟩ (.string (bs []))).setCell ⟨L, 2, none⟩ (.int .i64 0)).setCell ⟨L, 3, none⟩ (.slice ad2 ln2 c2)) := zei_ (.inl si_) (z1_ _ _)
 refine za5_ (p := fun b => (b ≠ L ∧ b ≠ R) ∨ W.heap.size ≤ b) (w := w1) ⟨hs.size, fun b hb2 hp => hs.block b hb2 ?_⟩ (fun b _ h => ?_) _ _ hl
 · have := hW.size
   simp; omega
 · have := hW.size
   omega
theorem zft_ (n : Nat) (hn : 1 ≤ n) (hn2 : n ≤ 100) (w : World) : Calls Tryz.prog 10 #[.int .i64 n] w fun e w' => Below w.heap.size w w' ∧ ∃ v, e = .returned v ∧ y2_ (fun _ => True) w' (zaW_ (n - 1)) v := by
 go_enter Tryz.func10, Tryz.ntmps10
 go_wp2_with fail
 refine (zco_ _ _).mono ?_
 rintro e w1 ⟨rfl, hb1⟩
 have g2 := z9_ (z3_ w zl_) hb1 si_
 have q2 := z2_ g2
 have f2 := z5_ g2
 have l2 := z0_ g2
 have G2 := Lib.hid g2
 clear g2
 go_wp2_with fail
 have G3 := z3_ w1 (.cells #[.int .u8 3, .string (bs []), .int .i64 1, .slice none 0 0] 25)
 have HD : Hid (zfs_ w1.heap.size w.heap.size w1 (w1.alloc (.cells #[.int .u8 3, .string (bs []), .int .i64 1, .slice none 0 0] 25)) 0) := ⟨3, 1, none, 0, 0, G3, zaG_ 1 om_ om_ _ _, z6_ (z1_ _ _) _⟩
 clear G3 q2 f2
 have hg01 : GL [] w w1 := z4_ hb1 (z6_ (z1_ _ _) _)
 have hRlt : w.heap.size < w1.heap.size := l2
 have hLL : w1.heap.size ≤ w1.heap.size := Nat.le_refl _
 generalize (w1.alloc (.cells #[.int .u8 3, .string (bs []), .int .i64 1, .slice none 0 0] 25)) = w2 at *
 generalize hL : w1.heap.size = L at *
 have HL := Lib.hid hL
 clear hL hb1
 go_loopw [4] (fun iv wr => ∃ i : Nat, 1 ≤ i ∧ i ≤ n ∧ iv = .int .i64 i ∧ Hid (zfs_ L w.heap.size w1 wr (i - 1))) (fun iv _ => n - (intOf iv).toNat)
 case atStart => exact ⟨1, Nat.le_refl _, hn, rfl, HD⟩
 case round =>
  obtain ⟨i, hi1, hi2, rfl, hD⟩ := hrel
  obtain ⟨k, m, ad, ln, c, hblk, hlk, hgr⟩ := hD.out
  have HB := Lib.hid hblk
  have HK := Lib.hid hlk
  have f0 := z5_ hblk
  have f1 := z2_ hblk
  have flt := z0_ hblk
  clear hblk hlk
  by_cases hlt : i < n
  · have hc := fun (W : World) (hgw : GL [] wr W) (N : Nat) (hN : W.heap[N]? = some (.cells #[.int .u8 k, .string (bs []), .int .i64 m, .slice ad ln c] 25 (0, 0))) => zde_ [zaW_ (i - 1)] N 0 1 (fun b => b ≠ L ∧ b ≠ w.heap.size) si_ si_ W (z0_ hN) (by
     unfold x2_ x2_
     exact ⟨⟨_, _, _, _, z7_ hgw _ _ HK.out, z2_ hN 0, z2_ hN 1, z2_ hN 2, z2_ hN 3⟩, trivial⟩)
    have HC := Lib.hid hc
    clear hc
    have hgW : GL [] wr (wr.alloc (.cells #[.int .u8 k, .string (bs []), .int .i64 m, .slice ad ln c] 25)) := z6_ (z1_ _ _) _
    go_wp2_with fail
    refine (HC.out _ hgW _ (z3_ wr _)).mono ?_
    rintro e w3 ⟨hb3, v3, rfl, hl3⟩
    obtain ⟨ad3, c3, hv3, _⟩ := y3_ hl3
    subst hv3
    have HL3 := Lib.hid hl3
    clear hl3
    have g4 := y7_ HB.out (z4_ hb3 hgW) si_
    have q4 := z2_ g4
    have f4 := z5_ g4
    have l4 := z0_ g4
    clear g4 f0 f1 flt
    go_wp2_with fail
    go_roundw
    case rel =>
     refine ⟨i + 1, by omega, by omega, by go_num, ?_⟩
     have h := zlM_ hRlt (w0 := w1) (L := L) (by rw [HL.out]; exact Nat.le_refl _) HB.out hgr _ hgW hb3 HL3.out
     rw [show i - 1 + 1 = i + 1 - 1 by omega] at h
     exact Lib.hid h
    case measure => simp [intOf]; omega
  · have e : i = n := by omega
    subst e
    have g4 := y7_ G2.out hgr si_
    have q4 := z2_ g4
    have f4 := z5_ g4
    have l4 := z0_ g4
    clear g4
    go_wp2_with fail
    refine bodyPost_ret (v := .agg #[.int .u8 k, .string (bs []), .int .i64 m, .slice ad ln c]) (by simp [results, Tryz.results10, go_sem, q4, f4]) rfl ⟨?_, _, rfl, ?_⟩
    · exact x0_ (zei_ (.inr (Nat.le_refl _)) (x1_ hgr hg01 si_))
    · have hs : GL [w.heap.size] wr ((((wr.setCell ⟨w.heap.size, 0, none⟩ (.int .u8 k)).setCell ⟨w.heap.size, 1, none⟩ (.string (bs []))).setCell ⟨w.heap.size, 2, none⟩ (.int .i64 m)).setCell ⟨w.heap.size, 3, none⟩ (.slice ad ln c)) := zei_ (.inl si_) (z1_ _ _)
      exact za5_ (p := fun b => b ≠ L ∧ b ≠ w.heap.size) (w := wr) ⟨hs.size, fun b hb2 hp => hs.block b hb2 (by simpa using hp.2)⟩ (fun _ _ _ => trivial) _ _ HK.out
end Go.Proofs.YtiplnofaejpeoaaGreatDoor
