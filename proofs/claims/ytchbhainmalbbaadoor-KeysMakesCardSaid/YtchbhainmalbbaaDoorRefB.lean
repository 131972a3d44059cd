/- The reference's writer of numbers. -/
import Derived.Test.YtchbhainmalbbaaDoorRefA
import Derived.Lib.ItoaNum
namespace Go.Proofs.YtchbhainmalbbaaDoor
open Go.RowKit

theorem run_conv1 {P : Program} (w : World) (src dst e : TypeId) (x : Int) (hs : P.underlying src = some (.slice e)) (he : P.underlying e = some (.int .u8)) (hd : P.underlying dst = some .string)
    (h0 : 0 ≤ x) (h1 : x < 256) :
    (convert src dst (.slice (some ⟨w.heap.size, 0, none⟩) 1 1)).run P (w.alloc (.cells #[.int .u8 x] e)) = .ok (.string (bs [UInt8.ofNat x.toNat])) (w.alloc (.cells #[.int .u8 x] e)) := by
  have e1 : ((UInt8.ofNat x.toNat).toNat : Int) = x := by
    rw [UInt8.toNat_ofNat']; omega
  have h := run_convert_bytes_back (P := P) (w.alloc (.cells #[.int .u8 x] e)) src dst e ⟨w.heap.size, 0, none⟩ 1 [UInt8.ofNat x.toNat] hs he hd (by
    intro j hj
    have : j = 0 := by simpa using hj
    subst this
    simp only [List.getElem_cons_zero, e1]
    simp [go_sem])
  exact h

set_option maxHeartbeats 1000000 in
set_option maxRecDepth 100000 in
theorem refDigits0 (n : Nat) : ∀ (x : Int) (_ : x = n) (_ : n ≤ 18446744073709551615) (w : World),
    Calls Tryd.prog 106 #[.int .u64 x] w fun e w' => e = .returned (.string (bs (Lib.decDigits n))) ∧ Below w.heap.size w w' := by
  induction n using Nat.strongRecOn with
  | ind n ih =>
    intro x hx hn w
    subst hx
    have kc := fun (w : World) => run_conv1 (P := Tryd.prog) w 116 9 5 (48 + (n : Int) % 10) Tryd.underlying116 Tryd.underlying5 Tryd.underlying9 (by omega) (by omega)
    have H : Hid (Lib.decDigits n = if n < 10 then [UInt8.ofNat (48 + n)] else Lib.decDigits (n / 10) ++ [UInt8.ofNat (48 + n % 10)]) := by
      show Lib.decDigits n = _
      rw [Lib.decDigits]
      split <;> rfl
    by_cases h : n ≤ 9
    · clear ih
      go_enter Tryd.func106, Tryd.ntmps106
      go_wp2_with fail
      go_ret
      refine ⟨?_, ?_⟩
      · rw [H.out, if_pos (by omega)]
        have : n % 10 = n := by omega
        simp [this]
      · (repeat' (first | with_reducible exact Below.refl _ _ | with_reducible assumption | with_reducible refine below_alloc ?_ ?_ _ | with_reducible refine Below.setCell ?_ ?_ _ | with_reducible refine Below.drew ?_ | with_reducible refine below_drewN ?_ _ | with_reducible refine below_step (by assumption) ?_ ?_ | (with_reducible refine Below.trans ?_ (Below.mono (by assumption) ?_)) | exact Nat.le_refl _ | (simp; done) | (simp; omega) | omega))
    · have hlen : (Lib.decDigits (n / 10)).length ≤ 20 := dec_len20 _ (by omega)
      go_enter Tryd.func106, Tryd.ntmps106
      go_wp2_with (go_at_call 106; refine (ih (n / 10) (by omega) _ (by omega) (by omega) _).mono ?_; rintro e w1 ⟨rfl, hb⟩)
      go_ret
      refine ⟨?_, ?_⟩
      · rw [H.out, if_neg (by omega)]; simp
      · refine Below.trans ?_ (hb.mono (by simp))
        (repeat' (first | with_reducible exact Below.refl _ _ | with_reducible assumption | with_reducible refine below_alloc ?_ ?_ _ | with_reducible refine Below.setCell ?_ ?_ _ | with_reducible refine Below.drew ?_ | with_reducible refine below_drewN ?_ _ | with_reducible refine below_step (by assumption) ?_ ?_ | (with_reducible refine Below.trans ?_ (Below.mono (by assumption) ?_)) | exact Nat.le_refl _ | (simp; done) | (simp; omega) | omega))

theorem refDigits (x : Int) (h0 : 0 ≤ x) (h1 : x ≤ 18446744073709551615) (w : World) :
    Calls Tryd.prog 106 #[.int .u64 x] w fun e w' => e = .returned (.string (bs (Lib.decDigits x.toNat))) ∧ Below w.heap.size w w' :=
  refDigits0 x.toNat x (by omega) (by omega) w

end Go.Proofs.YtchbhainmalbbaaDoor
