/- A region that draws its order: what holds of the world all along, what each operation gives. -/
import Derived.Test.YtembdkodajichaaGreatDoorRegR
set_option linter.unusedSimpArgs false
set_option linter.unusedVariables false
namespace Go.Proofs.YtembdkodajichaaGreatDoor
open Go.RowKit
section
variable {P : Program} {ops : Array Oper} {Q : Exit → Act → World → Prop} {a0 : Act} {w0 : World} {ds : List (Option Nat)}
def StepI (P : Program) (ops : Array Oper) (Q : Exit → Act → World → Prop) (a0 : Act) (ds : List (Option Nat)) (I : World → Prop) (G : Nat → Value → Prop) (i : Nat) (o : Oper) : Prop :=
 ∀ (a : Act) (w : World), (∀ t, some t ∉ ds → a.tmps[t]? = a0.tmps[t]?) → I w →
  (∀ e ∈ o.after.toList, Region.binds .any e = true → ∃ v, G e.on v ∧ ∀ d, ds[e.on]? = some (some d) → a.tmps[d]? = some v) →
  ∀ K : Act → World → Prop, (∀ v w', G i v → I w' → K (a.put o.dst v) w') →
   if Region.wanted o (yielded ops a.tmps) = true then o.wp P a w K Q else K (a.put o.dst undef) w
def StepsI (P : Program) (ops : Array Oper) (Q : Exit → Act → World → Prop) (a0 : Act) (ds : List (Option Nat)) (I : World → Prop) (G : Nat → Value → Prop) : Nat → List Oper → Prop
 | _, [] => True
 | i, o :: r => StepI P ops Q a0 ds I G i o ∧ StepsI P ops Q a0 ds I G (i + 1) r
theorem stepsI_at {I : World → Prop} {G : Nat → Value → Prop} : ∀ (l : List Oper) (k j : Nat) (o : Oper), StepsI P ops Q a0 ds I G k l → l[j]? = some o → StepI P ops Q a0 ds I G (k + j) o
 | [], _, _, _, _, h => by simp at h
 | x :: r, k, 0, o, hs, h => by
   simp only [List.getElem?_cons_zero, Option.some.injEq] at h
   subst h
   exact hs.1
 | x :: r, k, j + 1, o, hs, h => by
   have := stepsI_at r (k + 1) j o hs.2 (by simpa using h)
   rwa [Nat.add_assoc, Nat.add_comm 1 j] at this
theorem wp_region_I {I : World → Prop} {G : Nat → Value → Prop} {id : Nat} {l : List Oper} (hm : P.follows .mixedOrders = true) (hds : ds = l.map (·.dst)) (hD : Distinct ds) (hsz : ∀ d, some d ∈ ds → d < a0.tmps.size) (hdep : depB 0 l = true)
  (h0 : I w0.drew) (hsteps : StepsI P l.toArray Q a0 ds I G 0 l)
  (hend : ∀ vs w', vs.length = ds.length → (∀ i v, vs[i]? = some v → G i v) → I w' → Q .normal { a0 with tmps := setAll a0.tmps ds vs } w') : (Code.region id l.toArray true).wp P Q a0 w0 := by
 refine wp_region_R (J := fun m W => I W ∧ ∀ j v, m j = some v → G j v) (ds := ds) l.toArray.size 0 (Nat.le_refl _) hm ?_ hD hsz (fun i o h => depB_of hdep i o h) ?_ ⟨h0, fun j v h => by cases h⟩ ?_ ?_
 · rw [hds]; simp
 · unfold tailB
   rw [List.all_eq_true]
   intro i hi
   rw [List.mem_range] at hi
   rw [decide_eq_true hi]
   rfl
 · intro i o hi ho a w m _ hout hJ hmi hdp hval K hK
   have hs := stepsI_at l 0 i o hsteps (by simpa using ho)
   rw [Nat.zero_add] at hs
   refine hs a w hout hJ.1 (fun e he hb => ?_) K (fun v w' hG hI => hK v w' ⟨hI, fun j u hj => ?_⟩ trivial)
   · obtain ⟨v, hv⟩ := hdp e he hb
     exact ⟨v, hJ.2 _ _ hv, fun d hd => hval _ _ _ hv hd⟩
   · unfold updV at hj
     split at hj
     · rename_i e; injection hj with hj; rw [e, ← hj]; exact hG
     · exact hJ.2 _ _ hj
 · intro vs w' hl hJ _
   rw [Nat.sub_self]
   exact hend vs w' hl hJ.2 hJ.1
end
end Go.Proofs.YtembdkodajichaaGreatDoor
