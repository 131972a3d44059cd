/- The program's reader of terms: what package variables hold; the reader's contract; parts one behind the other. -/
import Derived.Test.YtchbhainmalbbaaDoorTermS
import Derived.Test.YtchbhainmalbbaaDoorRefI
import Derived.Lib.LaidTab
import Derived.Deep.DeepCutAuto
namespace Go.Proofs.YtchbhainmalbbaaDoor
open Go.RowKit

/-- So many blocks are the package variables'. -/
def gN : Nat := 7
theorem Tryd.gSyntax : Tryd.prog.globalNamed "strconv.ErrSyntax" = some 5 := by kernel_rfl
theorem Tryd.gRange : Tryd.prog.globalNamed "strconv.ErrRange" = some 6 := by kernel_rfl
theorem Tryd.gPow : Tryd.prog.globalNamed "internal/strconv.uint64pow10" = some 1 := by kernel_rfl
theorem var_keep {w w' : World} {name : String} {g : Nat} {x : Option (Array Value)} (hg : Tryd.prog.globalNamed name = some g) (hlt : g < gN) (hk : ∀ k, k < gN → w'.heap[k]? = w.heap[k]?)
    (h : w.var? Tryd.prog name = x) : w'.var? Tryd.prog name = x := by
  simp only [World.var?, hg, Option.bind_some, hk g hlt] at h ⊢
  exact h
/-- What the library reads of package variables. -/
structure GOk (w : World) : Prop where
  err : GErr w
  pow : Lib.TabIs Tryd.prog w "internal/strconv.uint64pow10" .u64 Lib.pow10Tab
  size : gN ≤ w.heap.size
theorem gok_keep {w w' : World} (h : GOk w) (hk : ∀ k, k < gN → w'.heap[k]? = w.heap[k]?) (hs : w.heap.size ≤ w'.heap.size) : GOk w' := by
  obtain ⟨⟨⟨t1, p1, h1⟩, ⟨t2, p2, h2⟩⟩, h3, h4⟩ := h
  exact ⟨⟨⟨t1, p1, var_keep Tryd.gSyntax (by decide) hk h1⟩, ⟨t2, p2, var_keep Tryd.gRange (by decide) hk h2⟩⟩, var_keep Tryd.gPow (by decide) hk h3, Nat.le_trans h4 hs⟩
theorem gok_gl {w w' : World} {rs : List Nat} (h : GOk w) (hg : GL rs w w') (hr : ∀ r ∈ rs, gN ≤ r) : GOk w' :=
  gok_keep h (fun k hk => hg.block k (Nat.lt_of_lt_of_le hk h.size) (fun hm => by have := hr k hm; omega)) hg.size
theorem gok_below {w w' : World} (h : GOk w) (hb : Below w.heap.size w w') : GOk w' :=
  gok_keep h (fun k hk => hb.block k (Nat.lt_of_lt_of_le hk h.size)) hb.size

theorem gok_alloc {w : World} (h : GOk w) (o : Obj) : GOk (w.alloc o) := gok_gl (rs := []) h (gl_alloc (gl_refl _ _) o) (by simp)
theorem gok_drewN {w : World} (h : GOk w) (n : Nat) : GOk (w.drewN n) := gok_gl (rs := []) h (gl_drewN (gl_refl _ _) n) (by simp)
theorem gok_drew {w : World} (h : GOk w) : GOk w.drew := gok_gl (rs := []) h (gl_drew (gl_refl _ _)) (by simp)
theorem gok_setn {w : World} (h : GOk w) {p : Addr} (hp : gN ≤ p.block) (v : Value) : GOk (w.setCell p v) := gok_gl (rs := [p.block]) h (gl_set (gl_refl _ _) (.inl (by simp)) v) (by simpa using hp)

/-- What the program's reader hands back. -/
def TermPost (b : Nat) (l : List UInt8) (i : Nat) (w : World) (o : Option Sh) (e : Ending) (w' : World) : Prop :=
  GL [b] w w' ∧
  match o with
  | none => e = .returned (.tuple #[.agg #[.int .u8 0, .int .i64 0, .string (bs []), .slice none 0 0, .int .i64 0], .bool false]) ∧ ∃ a : Int, RdAt w' b l a
  | some x => ∃ ad n c, e = .returned (.tuple #[.agg #[.int .u8 x.op.toNat, .int .i64 (numOf x), .string (bs x.text), .slice ad n c, .int .i64 x.deep], .bool true]) ∧ RdAt w' b l (i + x.len : Nat) ∧
      w'.ownsRow w.heap.size 22 1 (.slice ad n c) x.kids.length (x.kids.map fun k => .string (bs k))
/-- The reader one level down. -/
def TermIH (d : Nat) (l : List UInt8) : Prop := ∀ (b i : Nat) (D : Int) (w : World), D = d → i ≤ l.length → gN ≤ b → RdAt w b l i → GOk w →
    Calls Tryd.prog 109 #[.pointer (some ⟨b, 0, none⟩), .int .i64 D] w (TermPost b l i w (rd d (l.drop i)))

def KidsPost (b X : Nat) (l : List UInt8) (i : Nat) (op n0 : Int) (t : List UInt8) (w : World) (o : Option (List (List UInt8) × Nat × Nat)) (e : Ending) (w' : World) : Prop :=
  GL [b, X] w w' ∧
  match o with
  | none => e = .returned (.bool false) ∧ ∃ a : Int, RdAt w' b l a
  | some (ks, dp, len) => e = .returned (.bool true) ∧ RdAt w' b l (i + len : Nat) ∧ ∃ ad n c, ShAt w' X op n0 t (.slice ad n c) ((dp : Int) + 1) ∧
      w'.ownsRow w.heap.size 22 1 (.slice ad n c) ks.length (ks.map fun k => .string (bs k))

/-- What holds at the head of the loop over the parts. -/
def KLoop (b X : Nat) (l : List UInt8) (i d m : Nat) (op n0 : Int) (t : List UInt8) (w : World) (iv : Value) (wr : World) : Prop :=
  ∃ (k c dp : Nat) (ks : List (List UInt8)) (kv : Value), k ≤ m ∧ iv = .int .i64 k ∧ i + c ≤ l.length ∧ dp ≤ d ∧ ks.length = k ∧ KProg (rd d) l i m k c dp ks ∧
    RdAt wr b l ((i : Int) + c) ∧ ShAt wr X op n0 t kv ((dp : Int) + 1) ∧ wr.ownsRow w.heap.size 22 1 kv k (ks.map fun k => .string (bs k)) ∧ GL [b, X] w wr

set_option maxRecDepth 100000 in
set_option maxHeartbeats 2000000 in
theorem tKids (l : List UInt8) (d : Nat) (hd : d ≤ 64) (ih : TermIH d l) (b X i m : Nat) (M D op n0 : Int) (t : List UInt8) (hM : M = m) (hm : m ≤ 32) (hD : D = d + 1) (hi : i ≤ l.length) (hl : l.length ≤ 20000) (w : World) (hR : RdAt w b l i) (hX : ShAt w X op n0 t (.slice none 0 0) 1) (hbX : b ≠ X) (hb : gN ≤ b) (hXg : gN ≤ X) (hG : GOk w) :
    Calls Tryd.prog 148 #[.pointer (some ⟨b, 0, none⟩), .pointer (some ⟨X, 0, none⟩), .int .i64 M, .int .i64 D] w (KidsPost b X l i op n0 t w (kidsBy (rd d) m (l.drop i))) := by
  subst hM
  have hD1 : D - 1 = d := by omega
  have HD := Lib.hid hD1
  have hD2 : 1 ≤ D ∧ D ≤ 65 := by omega
  clear hD hD1
  obtain ⟨t0, ht0, ht1, ht2, ht3⟩ := info_parts Tryd.infoTerm
  have HG := Lib.hid hG
  have HR := Lib.hid hR
  have HX := Lib.hid hX
  clear hG hR hX
  go_enter Tryd.func148, Tryd.ntmps148
  go_wp2
  go_loopw [13] (fun iv wr => KLoop b X l i d m op n0 t w iv wr) (fun iv _ => m - (intOf iv).toNat)
  case atStart =>
    exact ⟨0, 0, 0, [], .slice none 0 0, by omega, rfl, by omega, by omega, rfl, kprog_start _ _ _ _, by simpa using HR.out, HX.out, ⟨rfl, Or.inl ⟨rfl, rfl⟩⟩, gl_refl _ _⟩
  case round =>
    obtain ⟨k, c, dp, ks, kv, hk, rfl, hic, hdp, hks, hprog, hRr, hXr, hown, hgl⟩ := hrel
    have HKS := Lib.hid hks
    have HP := Lib.hid hprog
    have HXr := Lib.hid hXr
    have HRr := Lib.hid hRr
    have f0 := blk_free hRr
    have f1 := blk_cell hRr
    clear hks hprog hXr hRr
    have HGr := Lib.hid (gok_gl HG.out hgl (by simp; omega))
    by_cases hlt : k < m
    · cases hr : rd d (l.drop (i + c)) with
      | none =>
        have HRD := Lib.hid hr
        clear hr
        go_wp2_with (go_at_call 109; refine (ih b (i + c) _ _ HD.out hic hb HRr.out HGr.out).mono ?_; rintro e w1 hp; rw [HRD.out] at hp; obtain ⟨hg1, rfl, a, hR1⟩ := hp)
        go_ret
        rw [kprog_none HP.out hlt HRD.out]
        exact ⟨by (repeat' (first | with_reducible exact gl_refl _ _ | with_reducible assumption | with_reducible refine gl_alloc ?_ _ | with_reducible refine gl_drewN ?_ _ | with_reducible refine gl_drew ?_ | (with_reducible refine gl_setn ?_ ?_ _; · (first | exact Nat.le_refl _ | (simp; done) | (simp; omega) | omega)) | (with_reducible refine gl_seti ?_ ?_ _; · (simp; done)) | with_reducible refine gl_below (by with_reducible assumption) ?_ | with_reducible refine gl_step (by with_reducible assumption) ?_ (by first | (simp; done) | (simp; omega)) | with_reducible refine gl_grown (by with_reducible assumption) ?_ (by first | (simp; done) | (simp; omega)))), rfl, a, blk_alloc hR1 _⟩
      | some x =>
        obtain ⟨hx1, hx2, hx3, hx4, -⟩ := rd_ok _ _ _ hr
        rw [List.length_drop] at hx2
        have HRD := Lib.hid hr
        clear hr
        have hneb : some b ≠ kv.ownBlock := own_ne hown HRr.out (by decide)
        have hneX : some X ≠ kv.ownBlock := own_ne hown HXr.out (by decide)
        obtain ⟨kva, kvn, kvc, hkv⟩ := own_slice hown
        subst hkv
        obtain rfl := own_len hown
        have j1 : (i : Int) + c ≤ (i : Int) + c + x.len := by omega
        have j2 : (i : Int) + c + x.len ≤ l.length := by omega
        have j3 : (0 : Int) ≤ (i : Int) + c := by omega
        have e1 : ((i : Int) + c).toNat = i + c := by omega
        have e2 : ((i : Int) + c + x.len).toNat = i + c + x.len := by omega
        go_wp2_with (go_at_call 109; refine (ih b (i + c) _ _ HD.out hic hb HRr.out HGr.out).mono ?_; rintro e w1 hp; rw [HRD.out] at hp; obtain ⟨hg1, ya, yn, yc, rfl, hR1, _⟩ := hp)
        have hX1 := blk_gl HXr.out hg1 (by simpa using Ne.symm hbX)
        have hown1 := own_gl hown hg1 (by intro r hr e; simp at hr; subst hr; exact hneb e.symm)
        have hR2 := blk_alloc hR1 (.cells #[.int .u8 x.op.toNat, .int .i64 (numOf x), .string (bs x.text), .slice ya yn yc, .int .i64 x.deep] 107)
        have hX2 := blk_alloc hX1 (.cells #[.int .u8 x.op.toNat, .int .i64 (numOf x), .string (bs x.text), .slice ya yn yc, .int .i64 x.deep] 107)
        have hY2 := blk_new w1 (.cells #[.int .u8 x.op.toNat, .int .i64 (numOf x), .string (bs x.text), .slice ya yn yc, .int .i64 x.deep] 107)
        have hown2 := hown1.alloc (.cells #[.int .u8 x.op.toNat, .int .i64 (numOf x), .string (bs x.text), .slice ya yn yc, .int .i64 x.deep] 107)
        have hgl2 : GL [b, X] w (w1.alloc (.cells #[.int .u8 x.op.toNat, .int .i64 (numOf x), .string (bs x.text), .slice ya yn yc, .int .i64 x.deep] 107)) := by (repeat' (first | with_reducible exact gl_refl _ _ | with_reducible assumption | with_reducible refine gl_alloc ?_ _ | with_reducible refine gl_drewN ?_ _ | with_reducible refine gl_drew ?_ | (with_reducible refine gl_setn ?_ ?_ _; · (first | exact Nat.le_refl _ | (simp; done) | (simp; omega) | omega)) | (with_reducible refine gl_seti ?_ ?_ _; · (simp; done)) | with_reducible refine gl_below (by with_reducible assumption) ?_ | with_reducible refine gl_step (by with_reducible assumption) ?_ (by first | (simp; done) | (simp; omega)) | with_reducible refine gl_grown (by with_reducible assumption) ?_ (by first | (simp; done) | (simp; omega))))
        have hXY : X ≠ w1.heap.size := by have := blk_lt hX1; omega
        have hYw : w.heap.size ≤ w1.heap.size := by have := hg1.size; have := hgl.size; omega
        generalize w1.alloc (.cells #[.int .u8 x.op.toNat, .int .i64 (numOf x), .string (bs x.text), .slice ya yn yc, .int .i64 x.deep] 107) = w2 at *
        clear hR1 hX1 hown1 hg1
        generalize w1.heap.size = Y at *
        have hneY : some Y ≠ (Value.slice kva kvn kvc).ownBlock := own_ne hown2 hY2 (by decide)
        have g0 := blk_free hR2
        have g1 := blk_cell hR2
        have g2 := blk_free hX2
        have g3 := blk_cell hX2
        have hlb := blk_lt hR2
        have hlX := blk_lt hX2
        obtain ⟨gg, cap4, w4, hrun, hown4, hgr4, hat, hlt4⟩ := run_append_lies (P := Tryd.prog) (w := (w2.alloc (.cells #[.string (bs ((l.drop (i + c)).take x.len))] 22)).drew) 47 47 w.heap.size 22 t0 _ 1 16 Tryd.underlying47 ht0 ht1 ht2 ht3 rfl (by omega) (.slice kva kvn kvc) kvn _ ((hown2.alloc _).drew) ⟨w2.heap.size, 0, none⟩ 1 1 [.string (bs ((l.drop (i + c)).take x.len))] rfl (World.news_of_block (cs := #[.string (bs ((l.drop (i + c)).take x.len))]) (t := 22) (fr := (0, 0)) (heap_alloc_new w2 _)) (by simp [Value.oneCell']) (by omega) (by unfold maxLen; omega) (by omega) (by simp; have := hgl2.size; omega) (w2.heap.size + 1) (by simp)
        have Hq := Lib.hid (blk_grown (w := (w2.alloc (.cells #[.string (bs ((l.drop (i + c)).take x.len))] 22)).drew) (blk_alloc hX2 _) hgr4 hneX)
        have HY := Lib.hid (blk_ne (blk_grown (w := (w2.alloc (.cells #[.string (bs ((l.drop (i + c)).take x.len))] 22)).drew) (blk_alloc hY2 _) hgr4 hneY) (p := ⟨X, 3, none⟩) (Ne.symm hXY) (.slice (some ⟨gg, 0, none⟩) (kvn + 1) cap4))
        have Hq3 := Lib.hid (blk_set Hq.out 3 (.slice (some ⟨gg, 0, none⟩) (kvn + 1) cap4))
        have f6 := blk_free Hq.out
        have f7 := blk_cell Hq.out
        have HX2 := Lib.hid hX2
        have HR2 := Lib.hid hR2
        have HY2 := Lib.hid hY2
        clear hX2 hR2 hY2
        simp [go_sem] at hrun
        go_upto_region 7 with fail
        go_cut [] (fun wx => wx = w4.setCell ⟨X, 3, none⟩ (.slice (some ⟨gg, 0, none⟩) (kvn + 1) cap4))
        case first =>
          go_region
          all_goals (go_wp2_with fail; go_meet; rfl)
        case rest =>
        obtain rfl := hcut
        clear f6 f7 g0 g1 g2 g3
        have f6 := blk_free Hq3.out
        have f7 := blk_cell Hq3.out
        have f8 := blk_free HY.out
        have f9 := blk_cell HY.out
        clear hrun
        go_wp2_with fail
        go_region
        go_wp2
        have hge := own_ge hown2
        have h4X := own_ne hown4 Hq.out (by decide)
        refine ⟨⟨kvn + 1, c + x.len, max dp x.deep, ks ++ [(l.drop (i + c)).take x.len], .slice (some ⟨gg, 0, none⟩) (kvn + 1) cap4, by omega, by simp, by omega, by omega, by simp [HKS.out], kprog_some HP.out hlt HRD.out, ?_, ?_, ?_, ?_⟩, by simp [intOf]; omega⟩
        · have h := blk_ne (blk_ne (blk_grown (w := (w2.alloc (.cells #[.string (bs ((l.drop (i + c)).take x.len))] 22)).drew) (blk_alloc HR2.out _) hgr4 hneb) (p := ⟨X, 3, none⟩) hbX (.slice (some ⟨gg, 0, none⟩) (kvn + 1) cap4)) (p := ⟨X, 4, none⟩) hbX (.int .i64 (max (dp : Int) x.deep + 1))
          rw [show (i : Int) + ((c + x.len : Nat) : Int) = ((i + c + x.len : Nat) : Int) by omega]
          exact h
        · have h := blk_set Hq3.out 4 (.int .i64 (max (dp : Int) x.deep + 1))
          rw [show ((max dp x.deep : Nat) : Int) + 1 = max (dp : Int) x.deep + 1 by omega]
          exact h
        · rw [List.map_append]
          exact (own_ne_set (own_ne_set hown4 (p := ⟨X, 3, none⟩) h4X _) (p := ⟨X, 4, none⟩) h4X _).drew
        · have hgl4 : GL [b, X] w w4 := gl_grown hgr4 (by (repeat' (first | with_reducible exact gl_refl _ _ | with_reducible assumption | with_reducible refine gl_alloc ?_ _ | with_reducible refine gl_drewN ?_ _ | with_reducible refine gl_drew ?_ | (with_reducible refine gl_setn ?_ ?_ _; · (first | exact Nat.le_refl _ | (simp; done) | (simp; omega) | omega)) | (with_reducible refine gl_seti ?_ ?_ _; · (simp; done)) | with_reducible refine gl_below (by with_reducible assumption) ?_ | with_reducible refine gl_step (by with_reducible assumption) ?_ (by first | (simp; done) | (simp; omega)) | with_reducible refine gl_grown (by with_reducible assumption) ?_ (by first | (simp; done) | (simp; omega))))) (fun r hr => .inr (hge r hr))
          (repeat' (first | with_reducible exact gl_refl _ _ | with_reducible assumption | with_reducible refine gl_alloc ?_ _ | with_reducible refine gl_drewN ?_ _ | with_reducible refine gl_drew ?_ | (with_reducible refine gl_setn ?_ ?_ _; · (first | exact Nat.le_refl _ | (simp; done) | (simp; omega) | omega)) | (with_reducible refine gl_seti ?_ ?_ _; · (simp; done)) | with_reducible refine gl_below (by with_reducible assumption) ?_ | with_reducible refine gl_step (by with_reducible assumption) ?_ (by first | (simp; done) | (simp; omega)) | with_reducible refine gl_grown (by with_reducible assumption) ?_ (by first | (simp; done) | (simp; omega))))
    · obtain rfl : k = m := by omega
      go_wp2
      go_ret
      obtain ⟨kva, kvn, kvc, hkv⟩ := own_slice hown
      subst hkv
      rw [kprog_end HP.out]
      refine ⟨hgl, rfl, ?_, kva, kvn, kvc, HXr.out, ?_⟩
      · rw [show ((i + c : Nat) : Int) = (i : Int) + c by omega]
        exact HRr.out
      · rw [HKS.out]; exact hown
end Go.Proofs.YtchbhainmalbbaaDoor
