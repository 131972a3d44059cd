/- The library's search over terms, at a function that writes what it keeps. -/
import Derived.Test.YtaaiaahkakkleaaGreatDoorMSpec
import Derived.WalkKit
import Derived.WalkSpells
import Derived.WalkLawsBesides
set_option maxRecDepth 100000
set_option maxHeartbeats 2000000
set_option linter.unusedSimpArgs false
set_option linter.unusedVariables false
namespace Go.Proofs.YtaaiaahkakkleaaGreatDoor
open Go.RowKit
def TermsAt (v : Value) (ts : List (List UInt8)) (w : World) : Prop :=
 (∃ (ad : Option Addr) (c : Nat), v = .slice ad 0 c ∧ ts = []) ∨ ∃ (b o c : Nat), v = .slice (some ⟨b, o, none⟩) ts.length c ∧ b < w.heap.size ∧ ∀ (k : Nat) (t : List UInt8), ts[k]? = some t → w.cell? ⟨b, o + k, none⟩ = some (.string (bs t))
theorem termsAt_open {v : Value} {ts : List (List UInt8)} {w : World} (h : TermsAt v ts w) : ∃ (ad : Option Addr) (c : Nat), v = .slice ad ts.length c ∧ (ts = [] ∨ ∃ b o, ad = some ⟨b, o, none⟩ ∧ b < w.heap.size ∧ ∀ (k : Nat) (t : List UInt8), ts[k]? = some t → w.cell? ⟨b, o + k, none⟩ = some (.string (bs t))) := by
 rcases h with ⟨ad, c, rfl, rfl⟩ | ⟨b, o, c, rfl, h⟩
 · exact ⟨ad, c, rfl, .inl rfl⟩
 · exact ⟨_, c, rfl, .inr ⟨b, o, rfl, h⟩⟩
def idxT (p : List UInt8 → Bool) : List (List UInt8) → Nat → Int
 | [], _ => -1
 | t :: r, k => if p t then k else idxT p r (k + 1)
theorem idxT_any (p : List UInt8 → Bool) : ∀ (l : List (List UInt8)) (k : Nat), decide (0 ≤ idxT p l k) = l.any p
 | [], k => by simp [idxT]
 | t :: r, k => by
   unfold idxT
   cases h : p t with
   | true => simp [h]
   | false => simp [h, idxT_any p r (k + 1)]
theorem termsAt_glx {v : Value} {ts : List (List UInt8)} {w w' : World} {rs : List Nat} (h : TermsAt v ts w) (hg : GL rs w w') (hr : ∀ b o c, v = .slice (some ⟨b, o, none⟩) ts.length c → b ∉ rs) : TermsAt v ts w' := by
 rcases h with h | ⟨b, o, c, h1, h2, h3⟩
 · exact .inl h
 · refine .inr ⟨b, o, c, h1, Nat.lt_of_lt_of_le h2 hg.size, fun k t hk => ?_⟩
   simp only [World.cell?, hg.block b h2 (hr b o c h1)]
   exact h3 k t hk
theorem tIndexI (g : Nat) (cap : Array Value) (eg : ∀ args w, (callFunc g args).run Tryz.prog w = .ok (.enter g args) w) (p : List UInt8 → Bool) (I : World → Prop) (rs : List Nat) (ts : List (List UInt8)) (hn : ts.length ≤ 9000000000000000000) (v : Value) (w : World) (hv : TermsAt v ts w)
  (hr : ∀ b o c, v = .slice (some ⟨b, o, none⟩) ts.length c → b ∉ rs) (hI : I w)
  (hp : ∀ (W : World) (t : List UInt8), t ∈ ts → GL rs w W → I W → Calls Tryz.prog g (#[.string (bs t)] ++ cap) W fun e W' => e = .returned (.bool (p t)) ∧ I W' ∧ GL rs W W') :
  Calls Tryz.prog 133 #[v, .func (.func g) #[] cap] w fun e w' => e = .returned (.int .i64 (idxT p ts 0)) ∧ I w' ∧ GL rs w w' := by
 obtain ⟨ad, c, rfl, hd⟩ := termsAt_open hv
 have HP := Lib.hid hp
 have HD := Lib.hid hd
 have HR := Lib.hid hr
 have HI0 := Lib.hid hI
 clear hp hd hv hr hI
 go_enter Tryz.func133, Tryz.ntmps133
 go_wp2
 go_loopw [5, 8] (fun _ iv wr => ∃ k : Nat, k ≤ ts.length ∧ iv = .int .i64 k ∧ Hid (GL rs w wr) ∧ Hid (I wr) ∧ Hid (idxT p (ts.drop k) k = idxT p ts 0)) (fun _ iv _ => ts.length - (intOf iv).toNat)
 case atStart => exact ⟨0, by omega, rfl, gl_refl _ _, HI0, rfl⟩
 case round =>
  obtain ⟨k, hk, rfl, hgr, hIr, hix⟩ := hrel
  by_cases hlt : k < ts.length
  · have i1 : (k : Int) < ts.length := by omega
    rcases HD.out with h0 | ⟨b, o, rfl, hb, hc⟩
    · subst h0; simp at hlt
    · have hx : ts[k]? = some ts[k] := List.getElem?_eq_getElem hlt
      have hc0 := hc k _ hx
      have c0 : wr.cell? ⟨b, o + k, none⟩ = some (.string (bs ts[k])) := by
       simp only [World.cell?, hgr.out.block b hb (HR.out b o c rfl)] at hc0 ⊢
       exact hc0
      have hcall := HP.out wr ts[k] (List.getElem_mem hlt) hgr.out hIr.out
      have hd0 : ts.drop k = ts[k] :: ts.drop (k + 1) := List.drop_eq_getElem_cons hlt
      have hix2 := hix.out
      rw [hd0, show idxT p (ts[k] :: ts.drop (k + 1)) k = if p ts[k] = true then (k : Int) else idxT p (ts.drop (k + 1)) (k + 1) from rfl] at hix2
      generalize ts[k] = t at *
      clear hx hc hc0 hd0
      cases hq : p t with
      | true =>
        rw [hq] at hcall hix2
        have HI := Lib.hid hix2
        clear hix2 hix hq
        have HCL := Lib.hid hcall
        clear hcall
        go_wp2_with fail
        refine (HCL.out).mono ?_
        rintro e w1 ⟨rfl, hI1, hg1⟩
        have HI1 := Lib.hid hI1
        clear hI1
        go_wp2_with fail
        go_ret
        exact ⟨by rw [← HI.out]; simp, HI1.out, gl_step hg1 hgr.out (fun r hr => .inl hr)⟩
      | false =>
        rw [hq] at hcall hix2
        have HI := Lib.hid hix2
        clear hix2 hix hq
        have HCL := Lib.hid hcall
        clear hcall
        go_wp2_with fail
        refine (HCL.out).mono ?_
        rintro e w1 ⟨rfl, hI1, hg1⟩
        have HI1 := Lib.hid hI1
        clear hI1
        go_wp2_with fail
        go_roundw
        case rel => exact ⟨k + 1, by omega, by go_num, Lib.hid (gl_step hg1 hgr.out (fun r hr => .inl hr)), HI1, Lib.hid (by simpa using HI.out)⟩
        case measure => simp [intOf]; omega
  · obtain rfl : k = ts.length := by omega
    have hz := hix.out
    rw [List.drop_length] at hz
    have HI := Lib.hid hz
    clear hz hix
    go_wp2
    go_ret
    exact ⟨by rw [← HI.out]; rfl, hIr.out, hgr.out⟩
theorem tContainsI (g : Nat) (cap : Array Value) (eg : ∀ args w, (callFunc g args).run Tryz.prog w = .ok (.enter g args) w) (p : List UInt8 → Bool) (I : World → Prop) (rs : List Nat) (ts : List (List UInt8)) (hn : ts.length ≤ 9000000000000000000) (v : Value) (w : World) (hv : TermsAt v ts w)
  (hr : ∀ b o c, v = .slice (some ⟨b, o, none⟩) ts.length c → b ∉ rs) (hI : I w)
  (hp : ∀ (W : World) (t : List UInt8), t ∈ ts → GL rs w W → I W → Calls Tryz.prog g (#[.string (bs t)] ++ cap) W fun e W' => e = .returned (.bool (p t)) ∧ I W' ∧ GL rs W W') :
  Calls Tryz.prog 118 #[v, .func (.func g) #[] cap] w fun e w' => e = .returned (.bool (ts.any p)) ∧ I w' ∧ GL rs w w' := by
 have hc := tIndexI g cap eg p I rs ts hn v w hv hr hI hp
 have H := Lib.hid (idxT_any p ts 0)
 clear hp hI
 go_enter Tryz.func118, Tryz.ntmps118
 go_wp2_with fail
 refine hc.mono ?_
 rintro e w1 ⟨rfl, hI1, hg1⟩
 have HI1 := Lib.hid hI1
 clear hI1
 go_wp2_with fail
 go_ret
 exact ⟨by rw [← H.out]; rfl, HI1.out, hg1⟩
end Go.Proofs.YtaaiaahkakkleaaGreatDoor
