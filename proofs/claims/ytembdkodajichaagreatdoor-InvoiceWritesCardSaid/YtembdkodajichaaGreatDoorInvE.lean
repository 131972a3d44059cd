/- Two invoices are compared. -/
import Derived.Test.YtembdkodajichaaGreatDoorInvM
import Derived.Laws.StructEq
set_option maxRecDepth 100000
set_option linter.unusedSimpArgs false
set_option linter.unusedVariables false
namespace Go.Proofs.YtembdkodajichaaGreatDoor
open Go.RowKit
def eqInv (a b : Inv) : Bool := a.am == b.am && (a.st == b.st && (a.hash == b.hash && (a.payee == b.payee && (a.memo == b.memo && (a.ex == b.ex && (a.de == b.de && a.sig == b.sig))))))
theorem eqInv_iff (a b : Inv) : eqInv a b = true ↔ a = b := by
 obtain ⟨a1, a2, a3, a4, a5, a6, a7, a8⟩ := a
 obtain ⟨b1, b2, b3, b4, b5, b6, b7, b8⟩ := b
 unfold eqInv
 simp only [Inv.mk.injEq, Bool.and_eq_true, beq_iff_eq]
theorem Tryz.partI64 (w : World) (cs : Array Value) (i : Nat) (v : Value) (h : cs[i]? = some v) : (part 2 cs i).run Tryz.prog w = .ok v w := by
 obtain ⟨j, hj, hjs⟩ := Option.map_eq_some_iff.1 (show (Tryz.prog.info? 2).map (·.size) = some 1 by kernel_rfl)
 simp [part, sizeOf, typeInfo, hj, hjs, run_underlying Tryz.underlying2, h]
theorem Tryz.partInt (w : World) (cs : Array Value) (i : Nat) (v : Value) (h : cs[i]? = some v) : (part 3 cs i).run Tryz.prog w = .ok v w := by
 obtain ⟨j, hj, hjs⟩ := Option.map_eq_some_iff.1 (show (Tryz.prog.info? 3).map (·.size) = some 1 by kernel_rfl)
 simp [part, sizeOf, typeInfo, hj, hjs, run_underlying Tryz.underlying3, h]
theorem Tryz.partStr (w : World) (cs : Array Value) (i : Nat) (v : Value) (h : cs[i]? = some v) : (part 9 cs i).run Tryz.prog w = .ok v w := by
 obtain ⟨j, hj, hjs⟩ := Option.map_eq_some_iff.1 (show (Tryz.prog.info? 9).map (·.size) = some 1 by kernel_rfl)
 simp [part, sizeOf, typeInfo, hj, hjs, run_underlying Tryz.underlying9, h]
theorem Tryz.partTerm (w : World) (cs : Array Value) (i : Nat) (v : Value) (h : cs[i]? = some v) : (part 29 cs i).run Tryz.prog w = .ok v w := by
 obtain ⟨j, hj, hjs⟩ := Option.map_eq_some_iff.1 (show (Tryz.prog.info? 29).map (·.size) = some 1 by kernel_rfl)
 simp [part, sizeOf, typeInfo, hj, hjs, run_underlying Tryz.underlying29, h]
theorem eqf_step {P : Program} {w : World} {d : Nat} {xs ys : Array Value} {f : Field} {fs : List Field} {a b : Value} {r c : Bool} (hn : f.name ≠ "_") (h1 : (part f.type xs f.offset).run P w = .ok a w) (h2 : (part f.type ys f.offset).run P w = .ok b w)
  (h3 : (Op.equalIn d f.type a b).run P w = .ok r w) (h4 : (Op.eqFields d xs ys fs).run P w = .ok c w) : (Op.eqFields d xs ys (f :: fs)).run P w = .ok (r && c) w := by
 simp only [Op.eqFields]
 rw [if_pos hn]
 simp only [Sem.run_bind, h1, h2, h3, Result.andThen_ok]
 cases r
 · rfl
 · simpa using h4
theorem eqf_nil {P : Program} {w : World} {d : Nat} {xs ys : Array Value} : (Op.eqFields d xs ys []).run P w = .ok true w := rfl
theorem equal_inv (a b : Inv) (w : World) : (Op.equalIn 10000 31 (.agg (invC a)) (.agg (invC b))).run Tryz.prog w = .ok (eqInv a b) w := by
 unfold eqInv
 rw [show (10000 : Nat) = 9999 + 1 from rfl, run_equalIn_agg w 9999 31 (invC a) (invC b) (by kernel_rfl) (by kernel_rfl)]
 simp only [Program.fieldsOf, Tryz.underlying31]
 have hi : ∀ (x y : Int) (d : Nat), (Op.equalIn (d + 1) 2 (.int .i64 x) (.int .i64 y)).run Tryz.prog w = .ok (x == y) w := fun x y d => run_equalIn_int w d 2 .i64 .i64 x y Tryz.underlying2
 have hn : ∀ (x y : Int) (d : Nat), (Op.equalIn (d + 1) 3 (.int .i64 x) (.int .i64 y)).run Tryz.prog w = .ok (x == y) w := fun x y d => run_equalIn_int w d 3 .i64 .i64 x y Tryz.underlying3
 have ht : ∀ (x y : List UInt8) (d : Nat), (Op.equalIn (d + 1) 29 (.string (bs x)) (.string (bs y))).run Tryz.prog w = .ok (x == y) w := fun x y d => by rw [run_equalIn_string w d 29 (bs x) (bs y) Tryz.underlying29, bs_toList, bs_toList]
 have hs : ∀ (x y : List UInt8) (d : Nat), (Op.equalIn (d + 1) 9 (.string (bs x)) (.string (bs y))).run Tryz.prog w = .ok (x == y) w := fun x y d => by rw [run_equalIn_string w d 9 (bs x) (bs y) Tryz.underlying9, bs_toList, bs_toList]
 rw [show (a.sig == b.sig) = ((a.sig == b.sig) && true) by simp]
 refine eqf_step de_ (Tryz.partI64 w (invC a) 0 _ rfl) (Tryz.partI64 w (invC b) 0 _ rfl) (hi _ _ _) ?_
 refine eqf_step de_ (Tryz.partI64 w (invC a) 1 _ rfl) (Tryz.partI64 w (invC b) 1 _ rfl) (hi _ _ _) ?_
 refine eqf_step de_ (Tryz.partTerm w (invC a) 2 _ rfl) (Tryz.partTerm w (invC b) 2 _ rfl) (ht _ _ _) ?_
 refine eqf_step de_ (Tryz.partTerm w (invC a) 3 _ rfl) (Tryz.partTerm w (invC b) 3 _ rfl) (ht _ _ _) ?_
 refine eqf_step de_ (Tryz.partStr w (invC a) 4 _ rfl) (Tryz.partStr w (invC b) 4 _ rfl) (hs _ _ _) ?_
 refine eqf_step de_ (Tryz.partI64 w (invC a) 5 _ rfl) (Tryz.partI64 w (invC b) 5 _ rfl) (hi _ _ _) ?_
 refine eqf_step de_ (Tryz.partInt w (invC a) 6 _ rfl) (Tryz.partInt w (invC b) 6 _ rfl) (hn _ _ _) ?_
 refine eqf_step de_ (Tryz.partTerm w (invC a) 7 _ rfl) (Tryz.partTerm w (invC b) 7 _ rfl) (ht _ _ _) ?_
 exact eqf_nil
theorem eql_inv (a b : Inv) (w : World) : (binOp .eql 31 (.agg #[.int .i64 a.am, .int .i64 a.st, .string (bs a.hash), .string (bs a.payee), .string (bs a.memo), .int .i64 a.ex, .int .i64 a.de, .string (bs a.sig)]) (.agg #[.int .i64 b.am, .int .i64 b.st, .string (bs b.hash), .string (bs b.payee), .string (bs b.memo), .int .i64 b.ex, .int .i64 b.de, .string (bs b.sig)])).run Tryz.prog w = .ok (.bool (eqInv a b)) w := by
 rw [run_eql_struct, show (#[Value.int .i64 a.am, .int .i64 a.st, .string (bs a.hash), .string (bs a.payee), .string (bs a.memo), .int .i64 a.ex, .int .i64 a.de, .string (bs a.sig)] : Array Value) = invC a from rfl, show (#[Value.int .i64 b.am, .int .i64 b.st, .string (bs b.hash), .string (bs b.payee), .string (bs b.memo), .int .i64 b.ex, .int .i64 b.de, .string (bs b.sig)] : Array Value) = invC b from rfl, equal_inv]
 rfl
theorem neq_inv (a b : Inv) (w : World) : (binOp .neq 31 (.agg #[.int .i64 a.am, .int .i64 a.st, .string (bs a.hash), .string (bs a.payee), .string (bs a.memo), .int .i64 a.ex, .int .i64 a.de, .string (bs a.sig)]) (.agg #[.int .i64 b.am, .int .i64 b.st, .string (bs b.hash), .string (bs b.payee), .string (bs b.memo), .int .i64 b.ex, .int .i64 b.de, .string (bs b.sig)])).run Tryz.prog w = .ok (.bool (!eqInv a b)) w := by
 rw [run_neq_struct, show (#[Value.int .i64 a.am, .int .i64 a.st, .string (bs a.hash), .string (bs a.payee), .string (bs a.memo), .int .i64 a.ex, .int .i64 a.de, .string (bs a.sig)] : Array Value) = invC a from rfl, show (#[Value.int .i64 b.am, .int .i64 b.st, .string (bs b.hash), .string (bs b.payee), .string (bs b.memo), .int .i64 b.ex, .int .i64 b.de, .string (bs b.sig)] : Array Value) = invC b from rfl, equal_inv]
 rfl
end Go.Proofs.YtembdkodajichaaGreatDoor
