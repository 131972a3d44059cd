/- What a law's reading of single texts and of structs of five texts gives the walks. -/
import Derived.Test.YtdmfoablpdhnbaaGreatDoorLiftB
set_option linter.unusedSimpArgs false
set_option linter.unusedVariables false
namespace Go.Proofs.YtdmfoablpdhnbaaGreatDoor
open Go.ChangeShapes Go.WideShapes Go.ChangeAt Go.RowKit

section
variable {H : Type} {P : Program}
/-- A text that is read is of the form's reach. -/
theorem sized_text {ts : List TypeId} {ds : List (DataW H)} {t : TypeId} {s : List UInt8} (h : (DataW.weightsEach P ts ds).all (· ≤ reachBytes) = true) {j : Nat} (ht : ts[j]? = some t) (hd : ds[j]? = some (.lit (.string s))) : s.length ≤ reachBytes := by
  have h1 : s.length ∈ (DataW.lit (.string s) : DataW H).weights P t := by simp [DataW.weights]
  have := List.all_eq_true.1 h _ (DataW.weights_mem_each ht hd _ h1)
  simpa using this
end

theorem texts_of5 {ls : List (List UInt8)} (h : ls.length = 5) : ∃ a b c d e, ls = [a, b, c, d, e] := by
  match ls, h with
  | [a, b, c, d, e], _ => exact ⟨a, b, c, d, e, rfl⟩
end Go.Proofs.YtdmfoablpdhnbaaGreatDoor
