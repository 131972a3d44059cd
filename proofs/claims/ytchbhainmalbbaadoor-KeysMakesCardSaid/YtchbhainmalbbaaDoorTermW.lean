/- The program reads a term. -/
import Derived.Test.YtchbhainmalbbaaDoorTermV
namespace Go.Proofs.YtchbhainmalbbaaDoor
open Go.RowKit

set_option maxRecDepth 100000 in
set_option maxHeartbeats 2000000 in
theorem tTermNo (l : List UInt8) (b i : Nat) (D : Int) (hl : l.length ≤ 20000) (w : World) (hR : RdAt w b l i) (h : i = l.length ∨ i < l.length ∧ D = 0) :
    Calls Tryd.prog 109 #[.pointer (some ⟨b, 0, none⟩), .int .i64 D] w (TermPost b l i w none) := by
  have f0 := blk_cell hR
  have f1 := blk_free hR
  have hlb := blk_lt hR
  have HR := Lib.hid hR
  clear hR
  have fin : ∀ w', GL [b] w w' → RdAt w' b l i → TermPost b l i w none (.returned (.tuple #[.agg #[.int .u8 0, .int .i64 0, .string (bs []), .slice none 0 0, .int .i64 0], .bool false])) w' := fun w' h1 h2 => ⟨h1, rfl, i, h2⟩
  have HF := Lib.hid fin
  clear fin
  rcases h with h | ⟨h, h2⟩
  · have d1 : ((i : Int) == (l.length : Int)) = true := by simp; omega
    clear h
    go_enter Tryd.func109, Tryd.ntmps109
    go_wp2
    go_quiet (fail)
    go_wp2
    refine bodyPost_ret (v := .tuple #[.agg #[.int .u8 0, .int .i64 0, .string (bs []), .slice none 0 0, .int .i64 0], .bool false]) (by simp [results, Tryd.results109, go_sem]) rfl (HF.out _ (by (repeat' (first | with_reducible exact gl_refl _ _ | with_reducible assumption | with_reducible refine gl_alloc ?_ _ | with_reducible refine gl_drewN ?_ _ | with_reducible refine gl_drew ?_ | (with_reducible refine gl_setn ?_ ?_ _; · (first | exact Nat.le_refl _ | (simp; done) | (simp; omega) | omega)) | (with_reducible refine gl_seti ?_ ?_ _; · (simp; done)) | with_reducible refine gl_below (by with_reducible assumption) ?_ | with_reducible refine gl_step (by with_reducible assumption) ?_ (by first | (simp; done) | (simp; omega)) | with_reducible refine gl_grown (by with_reducible assumption) ?_ (by first | (simp; done) | (simp; omega))))) ?_)
    have hq := HR.out
    unfold RdAt at hq ⊢
    (repeat' (first | with_reducible exact hq | with_reducible refine blk_alloc ?_ _ | with_reducible refine blk_drewN ?_ _ | with_reducible refine blk_drew ?_ | with_reducible refine blk_ne ?_ ?_ _ | (simp; done) | (simp; omega) | omega))
  · subst h2
    have d1 : ((i : Int) == (l.length : Int)) = false := by simp; omega
    clear h
    go_enter Tryd.func109, Tryd.ntmps109
    go_wp2
    go_quiet (fail)
    go_wp2
    refine bodyPost_ret (v := .tuple #[.agg #[.int .u8 0, .int .i64 0, .string (bs []), .slice none 0 0, .int .i64 0], .bool false]) (by simp [results, Tryd.results109, go_sem]) rfl (HF.out _ (by (repeat' (first | with_reducible exact gl_refl _ _ | with_reducible assumption | with_reducible refine gl_alloc ?_ _ | with_reducible refine gl_drewN ?_ _ | with_reducible refine gl_drew ?_ | (with_reducible refine gl_setn ?_ ?_ _; · (first | exact Nat.le_refl _ | (simp; done) | (simp; omega) | omega)) | (with_reducible refine gl_seti ?_ ?_ _; · (simp; done)) | with_reducible refine gl_below (by with_reducible assumption) ?_ | with_reducible refine gl_step (by with_reducible assumption) ?_ (by first | (simp; done) | (simp; omega)) | with_reducible refine gl_grown (by with_reducible assumption) ?_ (by first | (simp; done) | (simp; omega))))) ?_)
    have hq := HR.out
    unfold RdAt at hq ⊢
    (repeat' (first | with_reducible exact hq | with_reducible refine blk_alloc ?_ _ | with_reducible refine blk_drewN ?_ _ | with_reducible refine blk_drew ?_ | with_reducible refine blk_ne ?_ ?_ _ | (simp; done) | (simp; omega) | omega))

theorem rest_facts {d : Nat} {c : UInt8} {r : List UInt8} {y : Sh} (h : restR d c r = some y) : (∀ k ∈ y.kids, k ≠ []) ∧ ((c.toNat = 110 ∨ c.toNat = 116) ∨ ∃ r k, cnt c r = some (y.kids.length, k)) ∧ y.op = c := by
  simp only [restR] at h
  split at h
  · cases hn : num 59 r with
    | none => simp [hn] at h
    | some z => simp only [hn, Option.map_some, Option.some.injEq] at h; subst h; exact ⟨by simp, .inl (by omega), rfl⟩
  · split at h
    · cases hn : textR r with
      | none => simp [hn] at h
      | some z => simp only [hn, Option.map_some, Option.some.injEq] at h; subst h; exact ⟨by simp, .inl (by omega), rfl⟩
    · split at h
      · simp at h
      · rename_i m k hc
        split at h
        · simp at h
        · rename_i ks dp len hk
          simp only [Option.some.injEq] at h
          subst h
          have hb := kidsBy_ok (rd_ok d) _ _ _ _ _ hk
          exact ⟨hb.2.2.2.2, .inr ⟨r, k, by rw [hc, hb.1]⟩, rfl⟩

theorem tFitsR {d : Nat} {c : UInt8} {r : List UInt8} {y : Sh} (h : restR d c r = some y) (n dp : Int) (t : List UInt8) (ad : Option Addr) (kn kc : Nat) (w : World) (base : Nat)
    (hown : w.ownsRow base 22 1 (.slice ad kn kc) y.kids.length (y.kids.map fun k => .string (bs k))) :
    Calls Tryd.prog 129 #[.agg #[.int .u8 c.toNat, .int .i64 n, .string (bs t), .slice ad kn kc, .int .i64 dp]] w fun e w' =>
      e = .returned (.bool (fitsB c y.kids)) ∧ Below w.heap.size w w' := by
  obtain ⟨h1, h2, _⟩ := rest_facts h
  rcases h2 with h2 | h2
  · exact tFitsOther c n dp t ad kn kc y.kids (by omega) (by omega) (by omega) (by omega) w
  · exact tFits c n dp t ad kn kc y.kids _ rfl h2 h1 w base hown

theorem formCall {n f : Nat} (h : formFn n = some f) (args : Array Value) (w : World) : (callFunc f args).run Tryd.prog w = .ok (.enter f args) w := by
  simp only [formFn] at h
  repeat' split at h
  all_goals first
    | (simp only [Option.some.injEq] at h; subst h; kernel_rfl)
    | (simp at h; done)

set_option maxRecDepth 100000 in
set_option maxHeartbeats 2000000 in
theorem tTermYes (l : List UInt8) (d : Nat) (hd : d ≤ 63) (ih : TermIH d l) (b i : Nat) (D : Int) (hD : D = d + 1) (hi : i < l.length) (hl : l.length ≤ 20000) (w : World) (hR : RdAt w b l i) (hb : gN ≤ b) (hG : GOk w) :
    Calls Tryd.prog 109 #[.pointer (some ⟨b, 0, none⟩), .int .i64 D] w (TermPost b l i w (rd (d + 1) (l.drop i))) := by
  have f0 := blk_cell hR
  have f1 := blk_free hR
  have hlb := blk_lt hR
  have d1 : ((i : Int) == (l.length : Int)) = false := by simp; omega
  have d2 : (D == 0) = false := by simp; omega
  have HD := Lib.hid hD
  clear hD
  have i1 : (i : Int) < l.length := by omega
  have i2 : (0 : Int) ≤ i := by omega
  obtain ⟨c, hc⟩ : ∃ c, l[i] = c := ⟨_, rfl⟩
  have HC := Lib.hid hc
  clear hc
  have HR := Lib.hid hR
  have HG := Lib.hid hG
  clear hR hG
  rw [List.drop_eq_getElem_cons hi, rd_rest]
  have q0 : ∀ (w : World), (binOp .eql 158 .nilFunc .nilFunc).run Tryd.prog w = .ok (.bool true) w := fun _ => by kernel_rfl
  have q1 : ∀ (f : Nat) (p : Option Addr) (w : World), (binOp .eql 158 (.func (.func f) #[.pointer p] #[]) .nilFunc).run Tryd.prog w = .ok (.bool false) w := fun _ _ _ => by kernel_rfl
  cases hf : formFn l[i].toNat with
  | none =>
    rw [formNone hf]
    have HF := Lib.hid hf
    clear hf
    go_enter Tryd.func109, Tryd.ntmps109
    go_wp2
    go_quiet (fail)
    go_wp2
    go_region_held3 (fun w' => w'.cell? ⟨b, 0, none⟩ = some (.string (bs l)) ∧ w'.cell? ⟨b, 1, none⟩ = some (.int .i64 i)) (first | go_keep | (go_split_ands; refine ⟨?_, ?_⟩ <;> exact cell_set_ne (by assumption) (by simp; omega))) (fail)
    go_wp2_with (go_at_call 128; refine (tForm _ _ _).mono ?_; rintro e w1 ⟨rfl, rfl⟩; rw [HF.out]; simp only [formV])
    refine bodyPost_ret (v := .tuple #[.agg #[.int .u8 0, .int .i64 0, .string (bs []), .slice none 0 0, .int .i64 0], .bool false]) (by simp [results, Tryd.results109, go_sem]) rfl ⟨by (repeat' (first | with_reducible exact gl_refl _ _ | with_reducible assumption | with_reducible refine gl_alloc ?_ _ | with_reducible refine gl_drewN ?_ _ | with_reducible refine gl_drew ?_ | (with_reducible refine gl_setn ?_ ?_ _; · (first | exact Nat.le_refl _ | (simp; done) | (simp; omega) | omega)) | (with_reducible refine gl_seti ?_ ?_ _; · (simp; done)) | with_reducible refine gl_below (by with_reducible assumption) ?_ | with_reducible refine gl_step (by with_reducible assumption) ?_ (by first | (simp; done) | (simp; omega)) | with_reducible refine gl_grown (by with_reducible assumption) ?_ (by first | (simp; done) | (simp; omega)))), rfl, (i : Int) + 1, ?_⟩
    have hq : RdAt (((w.alloc (.cells #[.int .u8 0, .int .i64 0, .string (bs []), .slice none 0 0, .int .i64 0] 107)).drewN nq).setCell ⟨b, 1, none⟩ (.int .i64 ((i : Int) + 1))) b l ((i : Int) + 1) := blk_set (blk_drewN (blk_alloc HR.out _) nq) 1 (.int .i64 ((i : Int) + 1))
    unfold RdAt at hq ⊢
    (repeat' (first | with_reducible exact hq | with_reducible refine blk_alloc ?_ _ | with_reducible refine blk_drewN ?_ _ | with_reducible refine blk_drew ?_ | with_reducible refine blk_ne ?_ ?_ _ | (simp; done) | (simp; omega) | omega))
  | some f =>
    have hcf := formCall hf
    have HF := Lib.hid hf
    clear hf
    cases hr : restR d l[i] (l.drop (i + 1)) with
    | none =>
      have HRR := Lib.hid hr
      clear hr
      go_enter Tryd.func109, Tryd.ntmps109
      go_wp2
      go_quiet (fail)
      go_wp2
      go_region_held3 (fun w' => w'.cell? ⟨b, 0, none⟩ = some (.string (bs l)) ∧ w'.cell? ⟨b, 1, none⟩ = some (.int .i64 i)) (first | go_keep | (go_split_ands; refine ⟨?_, ?_⟩ <;> exact cell_set_ne (by assumption) (by simp; omega))) (fail)
      go_wp2_with (go_at_call 128; refine (tForm _ _ _).mono ?_; rintro e w1 ⟨rfl, rfl⟩; rw [HF.out]; simp only [formV])
      have hR1 : RdAt ((((w.alloc (.cells #[.int .u8 0, .int .i64 0, .string (bs []), .slice none 0 0, .int .i64 0] 107)).drewN nq).setCell ⟨b, 1, none⟩ (.int .i64 ((i : Int) + 1))).alloc (.cells #[.int .u8 l[i].toNat, .int .i64 0, .string (bs []), .slice none 0 0, .int .i64 1] 107)).drew b l (i + 1 : Nat) :=
        blk_drew (blk_alloc (blk_set (blk_drewN (blk_alloc HR.out _) nq) 1 (.int .i64 ((i : Int) + 1))) _)
      have hX1 : ShAt ((((w.alloc (.cells #[.int .u8 0, .int .i64 0, .string (bs []), .slice none 0 0, .int .i64 0] 107)).drewN nq).setCell ⟨b, 1, none⟩ (.int .i64 ((i : Int) + 1))).alloc (.cells #[.int .u8 l[i].toNat, .int .i64 0, .string (bs []), .slice none 0 0, .int .i64 1] 107)).drew (w.heap.size + 1) l[i].toNat 0 [] (.slice none 0 0) 1 := by
        have h := blk_drew (blk_new (((w.alloc (.cells #[.int .u8 0, .int .i64 0, .string (bs []), .slice none 0 0, .int .i64 0] 107)).drewN nq).setCell ⟨b, 1, none⟩ (.int .i64 ((i : Int) + 1))) (.cells #[.int .u8 l[i].toNat, .int .i64 0, .string (bs []), .slice none 0 0, .int .i64 1] 107))
        have e : (((w.alloc (.cells #[.int .u8 0, .int .i64 0, .string (bs []), .slice none 0 0, .int .i64 0] 107)).drewN nq).setCell ⟨b, 1, none⟩ (.int .i64 ((i : Int) + 1))).heap.size = w.heap.size + 1 := by simp
        rw [e] at h
        exact h
      have hZ1 : ((((w.alloc (.cells #[.int .u8 0, .int .i64 0, .string (bs []), .slice none 0 0, .int .i64 0] 107)).drewN nq).setCell ⟨b, 1, none⟩ (.int .i64 ((i : Int) + 1))).alloc (.cells #[.int .u8 l[i].toNat, .int .i64 0, .string (bs []), .slice none 0 0, .int .i64 1] 107)).drew.heap[w.heap.size]? = some (.cells #[.int .u8 0, .int .i64 0, .string (bs []), .slice none 0 0, .int .i64 0] 107 (0, 0)) :=
        blk_drew (blk_alloc (blk_ne (blk_drewN (blk_new _ _) nq) (by simp; omega) _) _)
      have hg1 : GL [b] w ((((w.alloc (.cells #[.int .u8 0, .int .i64 0, .string (bs []), .slice none 0 0, .int .i64 0] 107)).drewN nq).setCell ⟨b, 1, none⟩ (.int .i64 ((i : Int) + 1))).alloc (.cells #[.int .u8 l[i].toNat, .int .i64 0, .string (bs []), .slice none 0 0, .int .i64 1] 107)).drew := by (repeat' (first | with_reducible exact gl_refl _ _ | with_reducible assumption | with_reducible refine gl_alloc ?_ _ | with_reducible refine gl_drewN ?_ _ | with_reducible refine gl_drew ?_ | (with_reducible refine gl_setn ?_ ?_ _; · (first | exact Nat.le_refl _ | (simp; done) | (simp; omega) | omega)) | (with_reducible refine gl_seti ?_ ?_ _; · (simp; done)) | with_reducible refine gl_below (by with_reducible assumption) ?_ | with_reducible refine gl_step (by with_reducible assumption) ?_ (by first | (simp; done) | (simp; omega)) | with_reducible refine gl_grown (by with_reducible assumption) ?_ (by first | (simp; done) | (simp; omega))))
      have hw1 : w.heap.size + 2 ≤ ((((w.alloc (.cells #[.int .u8 0, .int .i64 0, .string (bs []), .slice none 0 0, .int .i64 0] 107)).drewN nq).setCell ⟨b, 1, none⟩ (.int .i64 ((i : Int) + 1))).alloc (.cells #[.int .u8 l[i].toNat, .int .i64 0, .string (bs []), .slice none 0 0, .int .i64 1] 107)).drew.heap.size := by simp
      generalize ((((w.alloc (.cells #[.int .u8 0, .int .i64 0, .string (bs []), .slice none 0 0, .int .i64 0] 107)).drewN nq).setCell ⟨b, 1, none⟩ (.int .i64 ((i : Int) + 1))).alloc (.cells #[.int .u8 l[i].toNat, .int .i64 0, .string (bs []), .slice none 0 0, .int .i64 1] 107)).drew = w1 at *
      have hG1 := gok_gl HG.out hg1 (by first | (simp; done) | (simp; omega))
      have hs := HG.out.size
      refine (tFormCall l d (by omega) ih b (w.heap.size + 1) i l[i] f HF.out D HD.out (by omega) hl w1 hR1 hX1 (by omega) hb (by omega) hG1).mono ?_
      rintro e w2 hp
      rw [HRR.out] at hp
      obtain ⟨hg2, rfl, a, hR2⟩ := hp
      have hZ2 := blk_gl hZ1 hg2 (by simp; omega)
      have f2 := blk_free hZ2
      have f3 := blk_cell hZ2
      go_wp2
      refine bodyPost_ret (v := .tuple #[.agg #[.int .u8 0, .int .i64 0, .string (bs []), .slice none 0 0, .int .i64 0], .bool false]) (by simp [results, Tryd.results109, go_sem, f2, f3]) rfl ⟨?_, rfl, a, ?_⟩
      · have hg3 : GL [b] w w2 := gl_step hg2 hg1 (by first | (simp; done) | (simp; omega))
        (repeat' (first | with_reducible exact gl_refl _ _ | with_reducible assumption | with_reducible refine gl_alloc ?_ _ | with_reducible refine gl_drewN ?_ _ | with_reducible refine gl_drew ?_ | (with_reducible refine gl_setn ?_ ?_ _; · (first | exact Nat.le_refl _ | (simp; done) | (simp; omega) | omega)) | (with_reducible refine gl_seti ?_ ?_ _; · (simp; done)) | with_reducible refine gl_below (by with_reducible assumption) ?_ | with_reducible refine gl_step (by with_reducible assumption) ?_ (by first | (simp; done) | (simp; omega)) | with_reducible refine gl_grown (by with_reducible assumption) ?_ (by first | (simp; done) | (simp; omega))))
      · have hq := hR2
        unfold RdAt at hq ⊢
        (repeat' (first | with_reducible exact hq | with_reducible refine blk_alloc ?_ _ | with_reducible refine blk_drewN ?_ _ | with_reducible refine blk_drew ?_ | with_reducible refine blk_ne ?_ ?_ _ | (simp; done) | (simp; omega) | omega))
    | some y =>
      have HRR := Lib.hid hr
      clear hr
      obtain ⟨_, _, hyop⟩ := rest_facts HRR.out
      have HOP := Lib.hid hyop
      clear hyop
      cases hfit : fitsB l[i] y.kids with
      | false =>
        have HFIT := Lib.hid hfit
        clear hfit
        show Calls _ _ _ w (TermPost b l i w (if fitsB l[i] y.kids = true then some y else none))
        rw [HFIT.out, if_neg (by simp)]
        go_enter Tryd.func109, Tryd.ntmps109
        go_wp2
        go_quiet (fail)
        go_wp2
        go_region_held3 (fun w' => w'.cell? ⟨b, 0, none⟩ = some (.string (bs l)) ∧ w'.cell? ⟨b, 1, none⟩ = some (.int .i64 i)) (first | go_keep | (go_split_ands; refine ⟨?_, ?_⟩ <;> exact cell_set_ne (by assumption) (by simp; omega))) (fail)
        go_wp2_with (go_at_call 128; refine (tForm _ _ _).mono ?_; rintro e w1 ⟨rfl, rfl⟩; rw [HF.out]; simp only [formV])
        have hR1 : RdAt ((((w.alloc (.cells #[.int .u8 0, .int .i64 0, .string (bs []), .slice none 0 0, .int .i64 0] 107)).drewN nq).setCell ⟨b, 1, none⟩ (.int .i64 ((i : Int) + 1))).alloc (.cells #[.int .u8 l[i].toNat, .int .i64 0, .string (bs []), .slice none 0 0, .int .i64 1] 107)).drew b l (i + 1 : Nat) :=
          blk_drew (blk_alloc (blk_set (blk_drewN (blk_alloc HR.out _) nq) 1 (.int .i64 ((i : Int) + 1))) _)
        have hX1 : ShAt ((((w.alloc (.cells #[.int .u8 0, .int .i64 0, .string (bs []), .slice none 0 0, .int .i64 0] 107)).drewN nq).setCell ⟨b, 1, none⟩ (.int .i64 ((i : Int) + 1))).alloc (.cells #[.int .u8 l[i].toNat, .int .i64 0, .string (bs []), .slice none 0 0, .int .i64 1] 107)).drew (w.heap.size + 1) l[i].toNat 0 [] (.slice none 0 0) 1 := by
          have h := blk_drew (blk_new (((w.alloc (.cells #[.int .u8 0, .int .i64 0, .string (bs []), .slice none 0 0, .int .i64 0] 107)).drewN nq).setCell ⟨b, 1, none⟩ (.int .i64 ((i : Int) + 1))) (.cells #[.int .u8 l[i].toNat, .int .i64 0, .string (bs []), .slice none 0 0, .int .i64 1] 107))
          have e : (((w.alloc (.cells #[.int .u8 0, .int .i64 0, .string (bs []), .slice none 0 0, .int .i64 0] 107)).drewN nq).setCell ⟨b, 1, none⟩ (.int .i64 ((i : Int) + 1))).heap.size = w.heap.size + 1 := by simp
          rw [e] at h
          exact h
        have hZ1 : ((((w.alloc (.cells #[.int .u8 0, .int .i64 0, .string (bs []), .slice none 0 0, .int .i64 0] 107)).drewN nq).setCell ⟨b, 1, none⟩ (.int .i64 ((i : Int) + 1))).alloc (.cells #[.int .u8 l[i].toNat, .int .i64 0, .string (bs []), .slice none 0 0, .int .i64 1] 107)).drew.heap[w.heap.size]? = some (.cells #[.int .u8 0, .int .i64 0, .string (bs []), .slice none 0 0, .int .i64 0] 107 (0, 0)) :=
          blk_drew (blk_alloc (blk_ne (blk_drewN (blk_new _ _) nq) (by simp; omega) _) _)
        have hg1 : GL [b] w ((((w.alloc (.cells #[.int .u8 0, .int .i64 0, .string (bs []), .slice none 0 0, .int .i64 0] 107)).drewN nq).setCell ⟨b, 1, none⟩ (.int .i64 ((i : Int) + 1))).alloc (.cells #[.int .u8 l[i].toNat, .int .i64 0, .string (bs []), .slice none 0 0, .int .i64 1] 107)).drew := by (repeat' (first | with_reducible exact gl_refl _ _ | with_reducible assumption | with_reducible refine gl_alloc ?_ _ | with_reducible refine gl_drewN ?_ _ | with_reducible refine gl_drew ?_ | (with_reducible refine gl_setn ?_ ?_ _; · (first | exact Nat.le_refl _ | (simp; done) | (simp; omega) | omega)) | (with_reducible refine gl_seti ?_ ?_ _; · (simp; done)) | with_reducible refine gl_below (by with_reducible assumption) ?_ | with_reducible refine gl_step (by with_reducible assumption) ?_ (by first | (simp; done) | (simp; omega)) | with_reducible refine gl_grown (by with_reducible assumption) ?_ (by first | (simp; done) | (simp; omega))))
        have hw1 : w.heap.size + 2 ≤ ((((w.alloc (.cells #[.int .u8 0, .int .i64 0, .string (bs []), .slice none 0 0, .int .i64 0] 107)).drewN nq).setCell ⟨b, 1, none⟩ (.int .i64 ((i : Int) + 1))).alloc (.cells #[.int .u8 l[i].toNat, .int .i64 0, .string (bs []), .slice none 0 0, .int .i64 1] 107)).drew.heap.size := by simp
        generalize ((((w.alloc (.cells #[.int .u8 0, .int .i64 0, .string (bs []), .slice none 0 0, .int .i64 0] 107)).drewN nq).setCell ⟨b, 1, none⟩ (.int .i64 ((i : Int) + 1))).alloc (.cells #[.int .u8 l[i].toNat, .int .i64 0, .string (bs []), .slice none 0 0, .int .i64 1] 107)).drew = w1 at *
        have hG1 := gok_gl HG.out hg1 (by first | (simp; done) | (simp; omega))
        have hs := HG.out.size
        refine (tFormCall l d (by omega) ih b (w.heap.size + 1) i l[i] f HF.out D HD.out (by omega) hl w1 hR1 hX1 (by omega) hb (by omega) hG1).mono ?_
        rintro e w2 hp
        rw [HRR.out] at hp
        obtain ⟨hg2, rfl, hR2, ad, kn, kc, hX2, hown2⟩ := hp
        have hZ2 := blk_gl hZ1 hg2 (by simp; omega)
        have f2 := blk_free hX2
        have f3 := blk_cell hX2
        have hg3 : GL [b] w w2 := gl_step hg2 hg1 (by first | (simp; done) | (simp; omega))
        have HX2 := Lib.hid hX2
        have HZ2 := Lib.hid hZ2
        have HR2 := Lib.hid hR2
        clear hX2 hZ2 hR2 hX1 hZ1 hR1
        go_wp2_with (go_at_call 129; refine (tFitsR HRR.out _ _ _ _ _ _ _ _ hown2).mono ?_; rintro e w3 ⟨rfl, hb3⟩; rw [HFIT.out]; have HZ3 := Lib.hid (blk_below HZ2.out hb3 (blk_lt HZ2.out)); have f4 := blk_free HZ3.out; have f5 := blk_cell HZ3.out)
        refine bodyPost_ret (v := .tuple #[.agg #[.int .u8 0, .int .i64 0, .string (bs []), .slice none 0 0, .int .i64 0], .bool false]) (by simp [results, Tryd.results109, go_sem, f4, f5]) rfl ?_
        have hg4 : GL [b] w w3 := gl_below hb3 hg3
        refine ⟨by (repeat' (first | with_reducible exact gl_refl _ _ | with_reducible assumption | with_reducible refine gl_alloc ?_ _ | with_reducible refine gl_drewN ?_ _ | with_reducible refine gl_drew ?_ | (with_reducible refine gl_setn ?_ ?_ _; · (first | exact Nat.le_refl _ | (simp; done) | (simp; omega) | omega)) | (with_reducible refine gl_seti ?_ ?_ _; · (simp; done)) | with_reducible refine gl_below (by with_reducible assumption) ?_ | with_reducible refine gl_step (by with_reducible assumption) ?_ (by first | (simp; done) | (simp; omega)) | with_reducible refine gl_grown (by with_reducible assumption) ?_ (by first | (simp; done) | (simp; omega)))), rfl, (i + y.len : Nat), ?_⟩
        have hq := blk_below HR2.out hb3 (blk_lt HR2.out)
        unfold RdAt
        have hlt2 := blk_lt HZ2.out
        (repeat' (first | with_reducible exact hq | with_reducible refine blk_alloc ?_ _ | with_reducible refine blk_drewN ?_ _ | with_reducible refine blk_drew ?_ | with_reducible refine blk_ne ?_ ?_ _ | (simp; done) | (simp; omega) | omega))
      | true =>
        have HFIT := Lib.hid hfit
        clear hfit
        show Calls _ _ _ w (TermPost b l i w (if fitsB l[i] y.kids = true then some y else none))
        rw [HFIT.out, if_pos rfl]
        go_enter Tryd.func109, Tryd.ntmps109
        go_wp2
        go_quiet (fail)
        go_wp2
        go_region_held3 (fun w' => w'.cell? ⟨b, 0, none⟩ = some (.string (bs l)) ∧ w'.cell? ⟨b, 1, none⟩ = some (.int .i64 i)) (first | go_keep | (go_split_ands; refine ⟨?_, ?_⟩ <;> exact cell_set_ne (by assumption) (by simp; omega))) (fail)
        go_wp2_with (go_at_call 128; refine (tForm _ _ _).mono ?_; rintro e w1 ⟨rfl, rfl⟩; rw [HF.out]; simp only [formV])
        have hR1 : RdAt ((((w.alloc (.cells #[.int .u8 0, .int .i64 0, .string (bs []), .slice none 0 0, .int .i64 0] 107)).drewN nq).setCell ⟨b, 1, none⟩ (.int .i64 ((i : Int) + 1))).alloc (.cells #[.int .u8 l[i].toNat, .int .i64 0, .string (bs []), .slice none 0 0, .int .i64 1] 107)).drew b l (i + 1 : Nat) :=
          blk_drew (blk_alloc (blk_set (blk_drewN (blk_alloc HR.out _) nq) 1 (.int .i64 ((i : Int) + 1))) _)
        have hX1 : ShAt ((((w.alloc (.cells #[.int .u8 0, .int .i64 0, .string (bs []), .slice none 0 0, .int .i64 0] 107)).drewN nq).setCell ⟨b, 1, none⟩ (.int .i64 ((i : Int) + 1))).alloc (.cells #[.int .u8 l[i].toNat, .int .i64 0, .string (bs []), .slice none 0 0, .int .i64 1] 107)).drew (w.heap.size + 1) l[i].toNat 0 [] (.slice none 0 0) 1 := by
          have h := blk_drew (blk_new (((w.alloc (.cells #[.int .u8 0, .int .i64 0, .string (bs []), .slice none 0 0, .int .i64 0] 107)).drewN nq).setCell ⟨b, 1, none⟩ (.int .i64 ((i : Int) + 1))) (.cells #[.int .u8 l[i].toNat, .int .i64 0, .string (bs []), .slice none 0 0, .int .i64 1] 107))
          have e : (((w.alloc (.cells #[.int .u8 0, .int .i64 0, .string (bs []), .slice none 0 0, .int .i64 0] 107)).drewN nq).setCell ⟨b, 1, none⟩ (.int .i64 ((i : Int) + 1))).heap.size = w.heap.size + 1 := by simp
          rw [e] at h
          exact h
        have hZ1 : ((((w.alloc (.cells #[.int .u8 0, .int .i64 0, .string (bs []), .slice none 0 0, .int .i64 0] 107)).drewN nq).setCell ⟨b, 1, none⟩ (.int .i64 ((i : Int) + 1))).alloc (.cells #[.int .u8 l[i].toNat, .int .i64 0, .string (bs []), .slice none 0 0, .int .i64 1] 107)).drew.heap[w.heap.size]? = some (.cells #[.int .u8 0, .int .i64 0, .string (bs []), .slice none 0 0, .int .i64 0] 107 (0, 0)) :=
          blk_drew (blk_alloc (blk_ne (blk_drewN (blk_new _ _) nq) (by simp; omega) _) _)
        have hg1 : GL [b] w ((((w.alloc (.cells #[.int .u8 0, .int .i64 0, .string (bs []), .slice none 0 0, .int .i64 0] 107)).drewN nq).setCell ⟨b, 1, none⟩ (.int .i64 ((i : Int) + 1))).alloc (.cells #[.int .u8 l[i].toNat, .int .i64 0, .string (bs []), .slice none 0 0, .int .i64 1] 107)).drew := by (repeat' (first | with_reducible exact gl_refl _ _ | with_reducible assumption | with_reducible refine gl_alloc ?_ _ | with_reducible refine gl_drewN ?_ _ | with_reducible refine gl_drew ?_ | (with_reducible refine gl_setn ?_ ?_ _; · (first | exact Nat.le_refl _ | (simp; done) | (simp; omega) | omega)) | (with_reducible refine gl_seti ?_ ?_ _; · (simp; done)) | with_reducible refine gl_below (by with_reducible assumption) ?_ | with_reducible refine gl_step (by with_reducible assumption) ?_ (by first | (simp; done) | (simp; omega)) | with_reducible refine gl_grown (by with_reducible assumption) ?_ (by first | (simp; done) | (simp; omega))))
        have hw1 : w.heap.size + 2 ≤ ((((w.alloc (.cells #[.int .u8 0, .int .i64 0, .string (bs []), .slice none 0 0, .int .i64 0] 107)).drewN nq).setCell ⟨b, 1, none⟩ (.int .i64 ((i : Int) + 1))).alloc (.cells #[.int .u8 l[i].toNat, .int .i64 0, .string (bs []), .slice none 0 0, .int .i64 1] 107)).drew.heap.size := by simp
        generalize ((((w.alloc (.cells #[.int .u8 0, .int .i64 0, .string (bs []), .slice none 0 0, .int .i64 0] 107)).drewN nq).setCell ⟨b, 1, none⟩ (.int .i64 ((i : Int) + 1))).alloc (.cells #[.int .u8 l[i].toNat, .int .i64 0, .string (bs []), .slice none 0 0, .int .i64 1] 107)).drew = w1 at *
        have hG1 := gok_gl HG.out hg1 (by first | (simp; done) | (simp; omega))
        have hs := HG.out.size
        refine (tFormCall l d (by omega) ih b (w.heap.size + 1) i l[i] f HF.out D HD.out (by omega) hl w1 hR1 hX1 (by omega) hb (by omega) hG1).mono ?_
        rintro e w2 hp
        rw [HRR.out] at hp
        obtain ⟨hg2, rfl, hR2, ad, kn, kc, hX2, hown2⟩ := hp
        have hZ2 := blk_gl hZ1 hg2 (by simp; omega)
        have f2 := blk_free hX2
        have f3 := blk_cell hX2
        have hg3 : GL [b] w w2 := gl_step hg2 hg1 (by first | (simp; done) | (simp; omega))
        have HX2 := Lib.hid hX2
        have HZ2 := Lib.hid hZ2
        have HR2 := Lib.hid hR2
        clear hX2 hZ2 hR2 hX1 hZ1 hR1
        go_wp2_with (go_at_call 129; refine (tFitsR HRR.out _ _ _ _ _ _ _ _ hown2).mono ?_; rintro e w3 ⟨rfl, hb3⟩; rw [HFIT.out]; have HZ3 := Lib.hid (blk_below HZ2.out hb3 (blk_lt HZ2.out)); have f4 := blk_free HZ3.out; have f5 := blk_cell HZ3.out; have HX3 := Lib.hid (blk_below HX2.out hb3 (blk_lt HX2.out)); have f6 := blk_free HX3.out; have f7 := blk_cell HX3.out)
        refine bodyPost_ret (v := .tuple #[.agg #[.int .u8 l[i].toNat, .int .i64 (numOf y), .string (bs y.text), .slice ad kn kc, .int .i64 y.deep], .bool true]) (by simp [results, Tryd.results109, go_sem, f4, f5]) rfl ?_
        have hg4 : GL [b] w w3 := gl_below hb3 hg3
        refine ⟨by (repeat' (first | with_reducible exact gl_refl _ _ | with_reducible assumption | with_reducible refine gl_alloc ?_ _ | with_reducible refine gl_drewN ?_ _ | with_reducible refine gl_drew ?_ | (with_reducible refine gl_setn ?_ ?_ _; · (first | exact Nat.le_refl _ | (simp; done) | (simp; omega) | omega)) | (with_reducible refine gl_seti ?_ ?_ _; · (simp; done)) | with_reducible refine gl_below (by with_reducible assumption) ?_ | with_reducible refine gl_step (by with_reducible assumption) ?_ (by first | (simp; done) | (simp; omega)) | with_reducible refine gl_grown (by with_reducible assumption) ?_ (by first | (simp; done) | (simp; omega)))), ad, kn, kc, by rw [HOP.out], ?_, ?_⟩
        · have hq := blk_below HR2.out hb3 (blk_lt HR2.out)
          unfold RdAt
          have hlt2 := blk_lt HZ2.out
          (repeat' (first | with_reducible exact hq | with_reducible refine blk_alloc ?_ _ | with_reducible refine blk_drewN ?_ _ | with_reducible refine blk_drew ?_ | with_reducible refine blk_ne ?_ ?_ _ | (simp; done) | (simp; omega) | omega))
        · have h3 := own_base (own_below hown2 hb3 rfl) (b2 := w.heap.size) (by omega)
          have hne := own_ne h3 HZ3.out (by decide)
          exact own_ne_set (own_ne_set (own_ne_set (own_ne_set (own_ne_set h3 (p := ⟨w.heap.size, 0, none⟩) hne _) (p := ⟨w.heap.size, 1, none⟩) hne _) (p := ⟨w.heap.size, 2, none⟩) hne _) (p := ⟨w.heap.size, 3, none⟩) hne _) (p := ⟨w.heap.size, 4, none⟩) hne _

theorem tTermAll (l : List UInt8) (hl : l.length ≤ 20000) : ∀ d, d ≤ 64 → TermIH d l
  | 0, _ => fun b i D w hD hi hb hR hG => by
    simp only [rd]
    refine tTermNo l b i D hl w hR ?_
    by_cases h : i = l.length
    · exact .inl h
    · exact .inr ⟨by omega, by omega⟩
  | d + 1, hd => fun b i D w hD hi hb hR hG => by
    by_cases h : i = l.length
    · rw [List.drop_of_length_le (by omega)]
      simp only [rd]
      exact tTermNo l b i D hl w hR (.inl h)
    · exact tTermYes l d (by omega) (tTermAll l hl d (by omega)) b i D (by omega) (by omega) hl w hR hb hG
end Go.Proofs.YtchbhainmalbbaaDoor
