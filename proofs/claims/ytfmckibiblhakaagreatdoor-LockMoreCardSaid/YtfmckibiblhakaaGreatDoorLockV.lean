/- The library's searches: slices.ContainsFunc over terms and over locks, at whatever function value. -/
import Derived.Test.YtfmckibiblhakaaGreatDoorLockP
import Derived.WalkKit
import Derived.WalkSpells
import Derived.WalkLawsBesides
set_option linter.unusedSimpArgs false
set_option linter.unusedVariables false
namespace Go.Proofs.YtfmckibiblhakaaGreatDoor
open Go.RowKit

/-- A row of terms in memory. -/
def TermsAt (v : Value) (ts : List (List UInt8)) (w : World) : Prop :=
  (∃ (ad : Option Addr) (c : Nat), v = .slice ad 0 c ∧ ts = []) ∨ ∃ (b o c : Nat), v = .slice (some ⟨b, o, none⟩) ts.length c ∧ b < w.heap.size ∧ ∀ (k : Nat) (t : List UInt8), ts[k]? = some t → w.cell? ⟨b, o + k, none⟩ = some (.string (bs t))
theorem termsAt_gl {v : Value} {ts : List (List UInt8)} {w w' : World} (h : TermsAt v ts w) (hg : GL [] w w') : TermsAt v ts w' := by
  rcases h with h | ⟨b, o, c, h1, h2, h3⟩
  · exact .inl h
  · refine .inr ⟨b, o, c, h1, Nat.lt_of_lt_of_le h2 hg.size, fun k t hk => ?_⟩
    simp only [World.cell?, hg.block b h2 (by simp)]
    exact h3 k t hk
theorem termsAt_open {v : Value} {ts : List (List UInt8)} {w : World} (h : TermsAt v ts w) : ∃ (ad : Option Addr) (c : Nat), v = .slice ad ts.length c ∧ (ts = [] ∨ ∃ b o, ad = some ⟨b, o, none⟩ ∧ b < w.heap.size ∧ ∀ (k : Nat) (t : List UInt8), ts[k]? = some t → w.cell? ⟨b, o + k, none⟩ = some (.string (bs t))) := by
  rcases h with ⟨ad, c, rfl, rfl⟩ | ⟨b, o, c, rfl, h⟩
  · exact ⟨ad, c, rfl, .inl rfl⟩
  · exact ⟨_, c, rfl, .inr ⟨b, o, rfl, h⟩⟩
def idxT (p : List UInt8 → Bool) : List (List UInt8) → Nat → Int
  | [], _ => -1
  | t :: r, k => if p t then k else idxT p r (k + 1)
theorem idxT_any (p : List UInt8 → Bool) : ∀ (l : List (List UInt8)) (k : Nat), decide (0 ≤ idxT p l k) = l.any p
  | [], k => by simp [idxT]
  | t :: r, k => by
    unfold idxT
    cases h : p t with
    | true => simp [h]
    | false => simp [h, idxT_any p r (k + 1)]
def idxL (p : LT → Bool) : List LT → Nat → Int
  | [], _ => -1
  | t :: r, k => if p t then k else idxL p r (k + 1)
theorem idxL_any (p : LT → Bool) : ∀ (l : List LT) (k : Nat), decide (0 ≤ idxL p l k) = l.any p
  | [], k => by simp [idxL]
  | t :: r, k => by
    unfold idxL
    cases h : p t with
    | true => simp [h]
    | false => simp [h, idxL_any p r (k + 1)]

set_option maxRecDepth 100000 in
set_option maxHeartbeats 2000000 in
theorem tIndexT (g : Nat) (cap : Array Value) (eg : ∀ args w, (callFunc g args).run Tryz.prog w = .ok (.enter g args) w) (p : List UInt8 → Bool) (ts : List (List UInt8)) (hn : ts.length ≤ 9000000000000000000) (v : Value) (w : World) (hv : TermsAt v ts w)
    (hp : ∀ (W : World) (t : List UInt8), t ∈ ts → GL [] w W → Calls Tryz.prog g (#[.string (bs t)] ++ cap) W fun e W' => e = .returned (.bool (p t)) ∧ Below W.heap.size W W') :
    Calls Tryz.prog 149 #[v, .func (.func g) #[] cap] w fun e w' => e = .returned (.int .i64 (idxT p ts 0)) ∧ Below w.heap.size w w' := by
  obtain ⟨ad, c, rfl, hd⟩ := termsAt_open hv
  have HP := Lib.hid hp
  have HD := Lib.hid hd
  clear hp hd hv
  go_enter Tryz.func149, Tryz.ntmps149
  go_wp2
  go_loopw [5, 8] (fun _ iv wr => ∃ k : Nat, k ≤ ts.length ∧ iv = .int .i64 k ∧ Hid (GL [] w wr) ∧ Hid (idxT p (ts.drop k) k = idxT p ts 0)) (fun _ iv _ => ts.length - (intOf iv).toNat)
  case atStart => exact ⟨0, by omega, rfl, gl_refl _ _, rfl⟩
  case round =>
    obtain ⟨k, hk, rfl, hgr, hix⟩ := hrel
    by_cases hlt : k < ts.length
    · have i1 : (k : Int) < ts.length := by omega
      rcases HD.out with h0 | ⟨b, o, rfl, hb, hc⟩
      · subst h0; simp at hlt
      · have hx : ts[k]? = some ts[k] := List.getElem?_eq_getElem hlt
        have hc0 := hc k _ hx
        have c0 : wr.cell? ⟨b, o + k, none⟩ = some (.string (bs ts[k])) := by
          simp only [World.cell?, hgr.out.block b hb (by simp)] at hc0 ⊢
          exact hc0
        have hcall := HP.out wr ts[k] (List.getElem_mem hlt) hgr.out
        have hd0 : ts.drop k = ts[k] :: ts.drop (k + 1) := List.drop_eq_getElem_cons hlt
        have hix2 := hix.out
        rw [hd0, show idxT p (ts[k] :: ts.drop (k + 1)) k = if p ts[k] = true then (k : Int) else idxT p (ts.drop (k + 1)) (k + 1) from rfl] at hix2
        generalize ts[k] = t at *
        clear hx hc hc0 hd0
        cases hq : p t with
        | true =>
          rw [hq] at hcall hix2
          have HI := Lib.hid hix2
          clear hix2 hix hq
          have HCL := Lib.hid hcall
          clear hcall
          go_wp2_with fail
          refine (HCL.out).mono ?_
          rintro e w1 ⟨rfl, hb1⟩
          go_wp2_with fail
          go_ret
          exact ⟨by rw [← HI.out]; simp, gl_to_below (gl_below hb1 hgr.out)⟩
        | false =>
          rw [hq] at hcall hix2
          have HI := Lib.hid hix2
          clear hix2 hix hq
          have HCL := Lib.hid hcall
          clear hcall
          go_wp2_with fail
          refine (HCL.out).mono ?_
          rintro e w1 ⟨rfl, hb1⟩
          go_wp2_with fail
          go_roundw
          case rel => exact ⟨k + 1, by omega, by go_num, Lib.hid (gl_below hb1 hgr.out), Lib.hid (by simpa using HI.out)⟩
          case measure => simp [intOf]; omega
    · obtain rfl : k = ts.length := by omega
      have hz := hix.out
      rw [List.drop_length] at hz
      have HI := Lib.hid hz
      clear hz hix
      go_wp2
      go_ret
      exact ⟨by rw [← HI.out]; rfl, gl_to_below hgr.out⟩

set_option maxRecDepth 100000 in
set_option maxHeartbeats 2000000 in
theorem tContainsT (g : Nat) (cap : Array Value) (eg : ∀ args w, (callFunc g args).run Tryz.prog w = .ok (.enter g args) w) (p : List UInt8 → Bool) (ts : List (List UInt8)) (hn : ts.length ≤ 9000000000000000000) (v : Value) (w : World) (hv : TermsAt v ts w)
    (hp : ∀ (W : World) (t : List UInt8), t ∈ ts → GL [] w W → Calls Tryz.prog g (#[.string (bs t)] ++ cap) W fun e W' => e = .returned (.bool (p t)) ∧ Below W.heap.size W W') :
    Calls Tryz.prog 116 #[v, .func (.func g) #[] cap] w fun e w' => e = .returned (.bool (ts.any p)) ∧ Below w.heap.size w w' := by
  have hc := tIndexT g cap eg p ts hn v w hv hp
  have H := Lib.hid (idxT_any p ts 0)
  clear hp
  go_enter Tryz.func116, Tryz.ntmps116
  go_wp2_with fail
  refine hc.mono ?_
  rintro e w1 ⟨rfl, hb1⟩
  go_wp2_with fail
  go_ret
  exact ⟨by rw [← H.out]; rfl, hb1⟩

set_option maxRecDepth 100000 in
set_option maxHeartbeats 2000000 in
theorem tIndexL (g : Nat) (cap : Array Value) (eg : ∀ args w, (callFunc g args).run Tryz.prog w = .ok (.enter g args) w) (p : LT → Bool) (ls : List LT) (hn : ls.length ≤ 9000000000000000000) (q : Nat → Prop) (ad : Option Addr) (c : Nat) (w : World) (hd : ls = [] ∨ ∃ b o, ad = some ⟨b, o, none⟩ ∧ b < w.heap.size ∧ q b ∧ RowIn q w ls b o)
    (hp : ∀ (W : World) (x : LT) (u : Value), x ∈ ls → GL [] w W → LockIn q W x u → Calls Tryz.prog g (#[u] ++ cap) W fun e W' => e = .returned (.bool (p x)) ∧ Below W.heap.size W W') :
    Calls Tryz.prog 152 #[.slice ad ls.length c, .func (.func g) #[] cap] w fun e w' => e = .returned (.int .i64 (idxL p ls 0)) ∧ Below w.heap.size w w' := by
  have HP := Lib.hid hp
  have HD := Lib.hid hd
  clear hp hd
  go_enter Tryz.func152, Tryz.ntmps152
  go_wp2
  go_loopw [5, 8] (fun _ iv wr => ∃ k : Nat, k ≤ ls.length ∧ iv = .int .i64 k ∧ Hid (GL [] w wr) ∧ Hid (idxL p (ls.drop k) k = idxL p ls 0)) (fun _ iv _ => ls.length - (intOf iv).toNat)
  case atStart => exact ⟨0, by omega, rfl, gl_refl _ _, rfl⟩
  case round =>
    obtain ⟨k, hk, rfl, hgr, hix⟩ := hrel
    by_cases hlt : k < ls.length
    · have i1 : (k : Int) < ls.length := by omega
      rcases HD.out with h0 | ⟨b, o, rfl, hb, hqb, hrow⟩
      · subst h0; simp at hlt
      · have hx : ls[k]? = some ls[k] := List.getElem?_eq_getElem hlt
        obtain ⟨u0, u1, u2, u3, hl, c0, c1, c2, c3⟩ := rowIn_get ls b o k ls[k] (rowIn_gl hgr.out ls b o hb hqb hrow) hx
        have hcall := HP.out wr ls[k] _ (List.getElem_mem hlt) hgr.out hl
        have hd0 : ls.drop k = ls[k] :: ls.drop (k + 1) := List.drop_eq_getElem_cons hlt
        have hix2 := hix.out
        rw [hd0, show idxL p (ls[k] :: ls.drop (k + 1)) k = if p ls[k] = true then (k : Int) else idxL p (ls.drop (k + 1)) (k + 1) from rfl] at hix2
        generalize ls[k] = t at *
        clear hx hd0 hrow hl
        cases hq : p t with
        | true =>
          rw [hq] at hcall hix2
          have HI := Lib.hid hix2
          clear hix2 hix hq
          have HCL := Lib.hid hcall
          clear hcall
          go_wp2_with fail
          refine (HCL.out).mono ?_
          rintro e w1 ⟨rfl, hb1⟩
          go_wp2_with fail
          go_ret
          exact ⟨by rw [← HI.out]; simp, gl_to_below (gl_below hb1 hgr.out)⟩
        | false =>
          rw [hq] at hcall hix2
          have HI := Lib.hid hix2
          clear hix2 hix hq
          have HCL := Lib.hid hcall
          clear hcall
          go_wp2_with fail
          refine (HCL.out).mono ?_
          rintro e w1 ⟨rfl, hb1⟩
          go_wp2_with fail
          go_roundw
          case rel => exact ⟨k + 1, by omega, by go_num, Lib.hid (gl_below hb1 hgr.out), Lib.hid (by simpa using HI.out)⟩
          case measure => simp [intOf]; omega
    · obtain rfl : k = ls.length := by omega
      have hz := hix.out
      rw [List.drop_length] at hz
      have HI := Lib.hid hz
      clear hz hix
      go_wp2
      go_ret
      exact ⟨by rw [← HI.out]; rfl, gl_to_below hgr.out⟩

set_option maxRecDepth 100000 in
set_option maxHeartbeats 2000000 in
theorem tContainsL (g : Nat) (cap : Array Value) (eg : ∀ args w, (callFunc g args).run Tryz.prog w = .ok (.enter g args) w) (p : LT → Bool) (ls : List LT) (hn : ls.length ≤ 9000000000000000000) (q : Nat → Prop) (ad : Option Addr) (c : Nat) (w : World) (hd : ls = [] ∨ ∃ b o, ad = some ⟨b, o, none⟩ ∧ b < w.heap.size ∧ q b ∧ RowIn q w ls b o)
    (hp : ∀ (W : World) (x : LT) (u : Value), x ∈ ls → GL [] w W → LockIn q W x u → Calls Tryz.prog g (#[u] ++ cap) W fun e W' => e = .returned (.bool (p x)) ∧ Below W.heap.size W W') :
    Calls Tryz.prog 121 #[.slice ad ls.length c, .func (.func g) #[] cap] w fun e w' => e = .returned (.bool (ls.any p)) ∧ Below w.heap.size w w' := by
  have hc := tIndexL g cap eg p ls hn q ad c w hd hp
  have H := Lib.hid (idxL_any p ls 0)
  clear hp hd
  go_enter Tryz.func121, Tryz.ntmps121
  go_wp2_with fail
  refine hc.mono ?_
  rintro e w1 ⟨rfl, hb1⟩
  go_wp2_with fail
  go_ret
  exact ⟨by rw [← H.out]; rfl, hb1⟩
end Go.Proofs.YtfmckibiblhakaaGreatDoor
