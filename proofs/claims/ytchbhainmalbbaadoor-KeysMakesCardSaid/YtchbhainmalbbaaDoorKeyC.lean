/- The layer keys: secrets are bound and joined; what the law's works asks. -/
import Derived.Test.YtchbhainmalbbaaDoorKeyB
import Derived.Test.YtchbhainmalbbaaDoorRefP
namespace Go.Proofs.YtchbhainmalbbaaDoor
open Go.RowKit

set_option maxRecDepth 100000 in
set_option maxHeartbeats 1000000 in
theorem kRevoke (x y : List UInt8) (hx : x.length ≤ 9000000000000000000) (hy : y.length ≤ 9000000000000000000) (w : World) (hG : GOk w) :
    Calls Tryd.prog 22 #[.string (bs x), .string (bs y)] w fun e w' => e = .returned (.tuple #[.string (bs (twoT 86 x y).1), .int .i64 (twoT 86 x y).2]) ∧ Below w.heap.size w w' := by
  go_enter Tryd.func22, Tryd.ntmps22
  go_wp2_with (go_at_call 59; refine (tJoin x y hx hy _ hG).mono ?_; rintro e w1 ⟨rfl, hb1⟩)
  go_ret2
  exact ⟨rfl, by (repeat' (first | with_reducible exact Below.refl _ _ | with_reducible assumption | with_reducible refine below_alloc ?_ ?_ _ | with_reducible refine Below.setCell ?_ ?_ _ | with_reducible refine Below.drew ?_ | with_reducible refine below_drewN ?_ _ | with_reducible refine below_step (by assumption) ?_ ?_ | (with_reducible refine Below.trans ?_ (Below.mono (by assumption) ?_)) | exact Nat.le_refl _ | (simp; done) | (simp; omega) | omega))⟩
set_option maxRecDepth 100000 in
set_option maxHeartbeats 1000000 in
theorem kBind (x y : List UInt8) (hx : x.length ≤ 9000000000000000000) (hy : y.length ≤ 9000000000000000000) (w : World) (hG : GOk w) :
    Calls Tryd.prog 20 #[.string (bs x), .string (bs y)] w fun e w' => e = .returned (.tuple #[.string (bs (twoT 75 x y).1), .int .i64 (twoT 75 x y).2]) ∧ Below w.heap.size w w' := by
  go_enter Tryd.func20, Tryd.ntmps20
  go_wp2_with (go_at_call 57; refine (tBind x y hx hy _ hG).mono ?_; rintro e w1 ⟨rfl, hb1⟩)
  go_ret2
  exact ⟨rfl, by (repeat' (first | with_reducible exact Below.refl _ _ | with_reducible assumption | with_reducible refine below_alloc ?_ ?_ _ | with_reducible refine Below.setCell ?_ ?_ _ | with_reducible refine Below.drew ?_ | with_reducible refine below_drewN ?_ _ | with_reducible refine below_step (by assumption) ?_ ?_ | (with_reducible refine Below.trans ?_ (Below.mono (by assumption) ?_)) | exact Nat.le_refl _ | (simp; done) | (simp; omega) | omega))⟩

theorem ev_node : nodeT [110, 49, 59] = ([68, 110, 49, 59, 84, 50, 58, 116, 52, 58, 110, 111, 100, 101, 116, 49, 58, 48], 0) := by decide +kernel
theorem ev_coin : coinT [110, 49, 59] (-1) = ([], 2) := by decide +kernel
theorem ev_join : twoT 86 [110, 49, 59] [110, 50, 59] = ([86, 110, 49, 59, 110, 50, 59], 0) := by decide +kernel
theorem ev_pub : pubT [86, 110, 49, 59, 110, 50, 59] = ([87, 80, 110, 49, 59, 80, 110, 50, 59], 0) := by decide +kernel
theorem ev_channel : (channelT [110, 49, 59] 2).2 = 0 ∧ (channelT [110, 49, 59] 2).1.getD 2 [] = [68, 68, 110, 49, 59, 84, 50, 58, 116, 55, 58, 99, 104, 97, 110, 110, 101, 108, 116, 49, 58, 50, 84, 50, 58, 116, 51, 58, 112, 97, 121, 116, 49, 58, 48] := by decide +kernel
end Go.Proofs.YtchbhainmalbbaaDoor
