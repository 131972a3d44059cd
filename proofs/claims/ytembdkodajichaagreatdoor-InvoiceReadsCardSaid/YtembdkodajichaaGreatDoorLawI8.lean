/- InvoiceReads: any text is read as the document says. -/
import Derived.Test.YtembdkodajichaaGreatDoorLawI2
import Derived.Test.YtembdkodajichaaGreatDoorR7X
import Derived.Test.YtembdkodajichaaGreatDoorInvE
set_option maxRecDepth 100000
set_option maxHeartbeats 8000000
set_option linter.unusedSimpArgs false
set_option linter.unusedVariables false
namespace Go.Proofs.YtembdkodajichaaGreatDoor
open Go.RowKit
theorem zs3_ (s : List UInt8) (hs : s.length ≤ 140737488355328) (w : World) (hI : IOk w) :
  Calls Tryz.prog 5 #[.string (bs s)] w fun e w' => e = .returned (.bool true) ∧ Below w.heap.size w w' := by
 have HI := Lib.hid hI
 clear hI
 by_cases hz : 6000 < s.length
 · have hz1 : decide ((6000 : Int) < s.length) = true := by simp; omega
   clear hz
   go_enter Tryz.func5, Tryz.ntmps5
   go_wp2_with fail
   refine (zj4_ _ HI.out).mono ?_
   rintro e wz ⟨rfl, hbz⟩
   go_wp2_with fail
   exact bodyPost_ret (v := .bool true) (by simp [results, Tryz.results5, go_sem]) rfl ⟨rfl, hbz⟩
 · have hz1 : decide ((6000 : Int) < s.length) = false := by simp; omega
   have hl : s.length ≤ 100000 := by omega
   clear hz
   go_enter Tryz.func5, Tryz.ntmps5
   go_wp2_with fail
   refine (zj0_ s om_ w HI.out).mono ?_
   rintro e w1 hp
   obtain ⟨rfl, hb1⟩ := hp
   have HI1 := Lib.hid (zbt_ HI.out hb1)
   have HL1 : Hid (GL [] w w1) := Lib.hid (y6_ hb1 (y1_ _ _))
   have HRF := Lib.hid (fun w => zs2_ s hl w)
   unfold DcO at HRF
   generalize decI s = dx at *
   obtain ⟨x, n⟩ := dx
   simp only at HRF ⊢
   have hq := zj2_ x x
   have hex : zd9_ x x = true := (zj1_ x x).2 rfl
   rw [hex] at hq
   unfold invV at HRF ⊢
   clear hb1 hex
   go_wp2_with fail
   have HB2 := Lib.hid (y8_ w1 (.cells #[.int .i64 x.am, .int .i64 x.st, .string (bs x.hash), .string (bs x.payee), .string (bs x.memo), .int .i64 x.ex, .int .i64 x.de, .string (bs x.sig)] 31))
   have HI2 : Hid (IOk (w1.alloc (.cells #[.int .i64 x.am, .int .i64 x.st, .string (bs x.hash), .string (bs x.payee), .string (bs x.memo), .int .i64 x.ex, .int .i64 x.de, .string (bs x.sig)] 31))) := Lib.hid (zct_ HI1.out (y2_ (y1_ _ _) _))
   have HL2 : Hid (GL [] w (w1.alloc (.cells #[.int .i64 x.am, .int .i64 x.st, .string (bs x.hash), .string (bs x.payee), .string (bs x.memo), .int .i64 x.ex, .int .i64 x.de, .string (bs x.sig)] 31))) := Lib.hid (y2_ HL1.out _)
   generalize w1.alloc (.cells #[.int .i64 x.am, .int .i64 x.st, .string (bs x.hash), .string (bs x.payee), .string (bs x.memo), .int .i64 x.ex, .int .i64 x.de, .string (bs x.sig)] 31) = w2 at *
   generalize w1.heap.size = X1 at *
   clear HI1 HL1
   refine (HRF.out w2).mono ?_
   rintro e w3 hp
   obtain ⟨rfl, hb3⟩ := hp
   have HB3 := Lib.hid (x0_ HB2.out hb3 (z4_ HB2.out))
   have HI3 := Lib.hid (zbt_ HI2.out hb3)
   have HL3 : Hid (GL [] w w3) := Lib.hid (y6_ hb3 HL2.out)
   clear hb3 HB2 HI2 HL2
   have HB4 : Hid ((w3.alloc (.cells #[.int .i64 x.am, .int .i64 x.st, .string (bs x.hash), .string (bs x.payee), .string (bs x.memo), .int .i64 x.ex, .int .i64 x.de, .string (bs x.sig)] 31)).heap[X1]? = some (.cells #[.int .i64 x.am, .int .i64 x.st, .string (bs x.hash), .string (bs x.payee), .string (bs x.memo), .int .i64 x.ex, .int .i64 x.de, .string (bs x.sig)] 31 (0, 0))) := Lib.hid (x3_ HB3.out _)
   have HC4 := Lib.hid (y8_ w3 (.cells #[.int .i64 x.am, .int .i64 x.st, .string (bs x.hash), .string (bs x.payee), .string (bs x.memo), .int .i64 x.ex, .int .i64 x.de, .string (bs x.sig)] 31))
   have HI4 : Hid (IOk (w3.alloc (.cells #[.int .i64 x.am, .int .i64 x.st, .string (bs x.hash), .string (bs x.payee), .string (bs x.memo), .int .i64 x.ex, .int .i64 x.de, .string (bs x.sig)] 31))) := Lib.hid (zct_ HI3.out (y2_ (y1_ _ _) _))
   have HL4 : Hid (GL [] w (w3.alloc (.cells #[.int .i64 x.am, .int .i64 x.st, .string (bs x.hash), .string (bs x.payee), .string (bs x.memo), .int .i64 x.ex, .int .i64 x.de, .string (bs x.sig)] 31))) := Lib.hid (y2_ HL3.out _)
   go_upto_region 5 with fail
   generalize w3.alloc (.cells #[.int .i64 x.am, .int .i64 x.st, .string (bs x.hash), .string (bs x.payee), .string (bs x.memo), .int .i64 x.ex, .int .i64 x.de, .string (bs x.sig)] 31) = w4 at *
   generalize w3.heap.size = X2 at *
   have fa := z0_ HB4.out
   have fb := z0_ HC4.out
   have hnn : (n == n) = true := by simp
   go_wp2_with fail
   refine (zj4_ _ HI4.out).mono ?_
   rintro e wz ⟨rfl, hbz⟩
   go_wp2_with fail
   exact bodyPost_ret (v := .bool true) (by simp [results, Tryz.results5, go_sem]) rfl ⟨rfl, y0_ (y6_ hbz HL4.out)⟩
end Go.Proofs.YtembdkodajichaaGreatDoor
