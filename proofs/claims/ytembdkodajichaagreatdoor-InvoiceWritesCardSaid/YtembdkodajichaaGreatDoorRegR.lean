/- A region that draws its order, by what each of its operations gives, whatever the order: one proof for each operation, none for an order. -/
import Derived.Test.YtembdkodajichaaGreatDoorMSpec
import Derived.Orders
set_option linter.unusedSimpArgs false
set_option linter.unusedVariables false
namespace Go.Proofs.YtembdkodajichaaGreatDoor
open Go.RowKit
def setAll (t : Array Value) : List (Option Nat) → List Value → Array Value
 | some d :: ds, v :: vs => setAll (t.setIfInBounds d v) ds vs
 | none :: ds, _ :: vs => setAll t ds vs
 | _, _ => t
theorem setAll_size : ∀ (ds : List (Option Nat)) (vs : List Value) (t : Array Value), (setAll t ds vs).size = t.size
 | [], [], t => rfl
 | [], _ :: _, t => rfl
 | some d :: ds, [], t => rfl
 | none :: ds, [], t => rfl
 | some d :: ds, v :: vs, t => by rw [setAll, setAll_size ds vs]; simp
 | none :: ds, v :: vs, t => by rw [setAll, setAll_size ds vs]
theorem setAll_out : ∀ (ds : List (Option Nat)) (vs : List Value) (t : Array Value) (k : Nat), some k ∉ ds → (setAll t ds vs)[k]? = t[k]?
 | [], vs, t, k, _ => by cases vs <;> rfl
 | some d :: ds, [], t, k, _ => rfl
 | none :: ds, [], t, k, _ => rfl
 | some d :: ds, v :: vs, t, k, h => by
   have h1 : d ≠ k := fun e => h (by rw [e]; simp)
   rw [setAll, setAll_out ds vs _ k (fun e => h (by simp [e])), Array.getElem?_setIfInBounds_ne h1]
 | none :: ds, v :: vs, t, k, h => by rw [setAll, setAll_out ds vs _ k (fun e => h (by simp [e]))]
def Distinct : List (Option Nat) → Prop
 | [] => True
 | some d :: ds => some d ∉ ds ∧ Distinct ds
 | none :: ds => Distinct ds
def distinctB : List (Option Nat) → Bool
 | [] => true
 | some d :: ds => !ds.contains (some d) && distinctB ds
 | none :: ds => distinctB ds
theorem distinct_of : ∀ ds, distinctB ds = true → Distinct ds
 | [], _ => trivial
 | some d :: ds, h => by
   simp only [distinctB, Bool.and_eq_true, Bool.not_eq_true'] at h
   refine ⟨fun hm => ?_, distinct_of ds h.2⟩
   have h1 := List.contains_iff_mem.2 hm
   rw [h.1] at h1
   cases h1
 | none :: ds, h => distinct_of ds h
theorem setAll_at : ∀ (ds : List (Option Nat)) (vs : List Value) (t : Array Value) (i d : Nat) (v : Value), Distinct ds → ds[i]? = some (some d) → vs[i]? = some v → d < t.size → (setAll t ds vs)[d]? = some v
 | [], _, _, _, _, _, _, h, _, _ => by simp at h
 | some e :: ds, [], _, _, _, _, _, _, h, _ => by simp at h
 | none :: ds, [], _, _, _, _, _, _, h, _ => by simp at h
 | some e :: ds, u :: vs, t, 0, d, v, hD, h, hv, hl => by
   simp only [List.getElem?_cons_zero, Option.some.injEq] at h hv
   subst h hv
   rw [setAll, setAll_out ds vs _ e hD.1, Array.getElem?_setIfInBounds_self_of_lt hl]
 | none :: ds, u :: vs, t, 0, d, v, hD, h, hv, hl => by simp at h
 | some e :: ds, u :: vs, t, i + 1, d, v, hD, h, hv, hl => by
   simp only [List.getElem?_cons_succ] at h hv
   rw [setAll]
   exact setAll_at ds vs _ i d v hD.2 h hv (by simpa using hl)
 | none :: ds, u :: vs, t, i + 1, d, v, hD, h, hv, hl => by
   simp only [List.getElem?_cons_succ] at h hv
   rw [setAll]
   exact setAll_at ds vs _ i d v hD h hv hl
theorem setAll_set : ∀ (ds : List (Option Nat)) (vs : List Value) (t : Array Value) (i d : Nat) (v : Value), Distinct ds → ds[i]? = some (some d) → i < vs.length → (setAll t ds vs).setIfInBounds d v = setAll t ds (vs.set i v)
 | [], _, _, _, _, _, _, h, _ => by simp at h
 | some e :: ds, [], _, _, _, _, _, _, h => by simp at h
 | none :: ds, [], _, _, _, _, _, _, h => by simp at h
 | some e :: ds, u :: vs, t, 0, d, v, hD, h, _ => by
   simp only [List.getElem?_cons_zero, Option.some.injEq] at h
   subst h
   rw [List.set_cons_zero, setAll, setAll]
   have : ∀ (ds : List (Option Nat)) (vs : List Value) (t : Array Value), some e ∉ ds → (setAll t ds vs).setIfInBounds e v = setAll (t.setIfInBounds e v) ds vs := by
    intro ds
    induction ds with
    | nil => intro vs t _; cases vs <;> rfl
    | cons x ds ih =>
      intro vs t hx
      cases vs with
      | nil => cases x <;> rfl
      | cons y vs =>
        cases x with
        | none => rw [setAll, setAll, ih vs t (fun h => hx (by simp [h]))]
        | some z =>
          have hz : z ≠ e := fun h => hx (by simp [h])
          rw [setAll, setAll, ih vs _ (fun h => hx (by simp [h])), Array.setIfInBounds_comm _ _ hz]
   rw [this ds vs _ hD.1, Array.setIfInBounds_setIfInBounds]
 | none :: ds, u :: vs, t, 0, d, v, hD, h, _ => by simp at h
 | some e :: ds, u :: vs, t, i + 1, d, v, hD, h, hi => by
   simp only [List.getElem?_cons_succ] at h
   rw [List.set_cons_succ, setAll, setAll]
   exact setAll_set ds vs _ i d v hD.2 h (by simpa using hi)
 | none :: ds, u :: vs, t, i + 1, d, v, hD, h, hi => by
   simp only [List.getElem?_cons_succ] at h
   rw [List.set_cons_succ, setAll, setAll]
   exact setAll_set ds vs _ i d v hD h (by simpa using hi)
theorem setAll_none : ∀ (ds : List (Option Nat)) (vs : List Value) (t : Array Value) (i : Nat) (v : Value), ds[i]? = some none → setAll t ds (vs.set i v) = setAll t ds vs
 | [], _, _, _, _, h => by simp at h
 | some e :: ds, [], _, _, _, h => rfl
 | none :: ds, [], _, _, _, h => rfl
 | some e :: ds, u :: vs, t, 0, v, h => by simp at h
 | none :: ds, u :: vs, t, 0, v, h => rfl
 | some e :: ds, u :: vs, t, i + 1, v, h => by
   simp only [List.getElem?_cons_succ] at h
   rw [List.set_cons_succ, setAll, setAll]
   exact setAll_none ds vs _ i v h
 | none :: ds, u :: vs, t, i + 1, v, h => by
   simp only [List.getElem?_cons_succ] at h
   rw [List.set_cons_succ, setAll, setAll]
   exact setAll_none ds vs _ i v h
def firstV (t : Array Value) (ds : List (Option Nat)) : List Value := ds.map fun d => match d with | some d => t.getD d undef | none => undef
theorem setAll_first : ∀ (ds : List (Option Nat)) (t : Array Value), setAll t ds (firstV t ds) = t
 | [], t => rfl
 | some d :: ds, t => by
   have e : t.setIfInBounds d (t.getD d undef) = t := by
    apply Array.ext
    · simp
    · intro i h1 h2
      rw [Array.getElem_setIfInBounds h2]
      split
      · rename_i hd
        subst hd
        simp [Array.getD, h2]
      · rfl
   show setAll (t.setIfInBounds d (t.getD d undef)) ds (firstV t ds) = t
   rw [e]
   exact setAll_first ds t
 | none :: ds, t => setAll_first ds t
def unl : List Bool → Nat
 | [] => 0
 | b :: r => (if b then 0 else 1) + unl r
theorem unl_set : ∀ (l : List Bool) (i : Nat), l[i]? = some false → unl (l.set i true) + 1 = unl l
 | [], i, h => by simp at h
 | b :: r, 0, h => by
   simp only [List.getElem?_cons_zero, Option.some.injEq] at h
   subst h
   simp [unl]; omega
 | b :: r, i + 1, h => by
   simp only [List.getElem?_cons_succ] at h
   have := unl_set r i h
   simp only [List.set_cons_succ, unl]
   omega
theorem unl_zero : ∀ (l : List Bool), unl l = 0 → ∀ (i : Nat) (b : Bool), l[i]? = some b → b = true
 | [], _, i, b, h => by simp at h
 | c :: r, h0, 0, b, h => by
   simp only [List.getElem?_cons_zero, Option.some.injEq] at h
   subst h
   cases c with
   | true => rfl
   | false => simp [unl] at h0
 | c :: r, h0, i + 1, b, h => by
   simp only [List.getElem?_cons_succ] at h
   exact unl_zero r (by simp only [unl] at h0; omega) i b h
theorem unl_rep : ∀ n, unl (List.replicate n false) = n
 | 0 => rfl
 | n + 1 => by rw [List.replicate_succ, unl, unl_rep n]; simp; omega
section
variable {P : Program} {ops : Array Oper} {Q : Exit → Act → World → Prop} {a0 : Act} {w0 : World} {ds : List (Option Nat)}
def GLT (_ _ : World) : Prop := True
theorem ready_none {listed : Array Bool} (hls : listed.size = ops.size) (hdep : ∀ (i : Nat) (o : Oper), ops[i]? = some o → ∀ e ∈ o.after.toList, e.on < i) (h : Region.ready .any ops listed = []) : ∀ i, i < ops.size → listed[i]? = some true := by
 intro i
 induction i using Nat.strongRecOn with
 | _ i ih =>
   intro hi
   cases hb : listed[i]'om_ with
   | true => rw [Array.getElem?_eq_getElem om_, hb]
   | false =>
     have : i ∈ Region.ready .any ops listed := by
      unfold Region.ready
      rw [List.mem_filter]
      refine ⟨List.mem_range.2 hi, ?_⟩
      have e1 : listed.getD i true = false := by simp [Array.getD, hls, hi, hb]
      rw [e1, Array.getElem?_eq_getElem hi]
      simp only [Bool.not_false, Bool.true_and, Option.map_some, Option.getD_some]
      rw [Array.all_eq_true]
      intro k hk
      have hlt := hdep i ops[i] (Array.getElem?_eq_getElem hi) (ops[i].after[k]) si_
      have := ih _ hlt om_
      have e2 : listed.getD ops[i].after[k].on false = true := by
       rw [Array.getD_eq_getD_getElem?, this]; rfl
      rw [e2, Bool.or_true]
     rw [h] at this
     cases this
def depB : Nat → List Oper → Bool
 | _, [] => true
 | i, o :: r => o.after.toList.all (fun e => decide (e.on < i)) && depB (i + 1) r
theorem depB_at : ∀ (l : List Oper) (k j : Nat) (o : Oper), depB k l = true → l[j]? = some o → ∀ e ∈ o.after.toList, e.on < k + j
 | [], _, _, _, _, h => by simp at h
 | x :: r, k, 0, o, hs, h => by
   simp only [List.getElem?_cons_zero, Option.some.injEq] at h
   subst h
   simp only [depB, Bool.and_eq_true, List.all_eq_true, decide_eq_true_eq] at hs
   exact hs.1
 | x :: r, k, j + 1, o, hs, h => by
   simp only [List.getElem?_cons_succ] at h
   simp only [depB, Bool.and_eq_true] at hs
   have := depB_at r (k + 1) j o hs.2 h
   rwa [show k + 1 + j = k + (j + 1) by omega] at this
theorem depB_of {l : List Oper} (hs : depB 0 l = true) (i : Nat) (o : Oper) (h : l.toArray[i]? = some o) : ∀ e ∈ o.after.toList, e.on < i := by
 have := depB_at l 0 i o hs (by simpa using h)
 rwa [Nat.zero_add] at this
def ltB (n : Nat) : List (Option Nat) → Bool
 | [] => true
 | some d :: r => decide (d < n) && ltB n r
 | none :: r => ltB n r
theorem ltB_of {n : Nat} : ∀ (l : List (Option Nat)), ltB n l = true → ∀ d, some d ∈ l → d < n
 | [], _, d, h => by simp at h
 | some e :: r, hs, d, h => by
   simp only [ltB, Bool.and_eq_true, decide_eq_true_eq] at hs
   rcases List.mem_cons.1 h with h | h
   · injection h with h; omega
   · exact ltB_of r hs.2 d h
 | none :: r, hs, d, h => by
   rcases List.mem_cons.1 h with h | h
   · cases h
   · exact ltB_of r hs d h
theorem cons_of {α : Type} {n : Nat} {l : List α} (h : l.length = n + 1) : ∃ a r, l = a :: r ∧ r.length = n := by
 cases l with
 | nil => simp at h
 | cons a r => exact ⟨a, r, rfl, by simpa using h⟩
def reachB (ops : Array Oper) : Nat → Nat → Nat → Bool
 | 0, _, _ => false
 | f + 1, i, k => match ops[i]? with
   | none => false
   | some o => o.after.toList.any fun e => Region.binds .any e && (e.on == k || reachB ops f e.on k)
def Closed (ops : Array Oper) (listed : Array Bool) : Prop := ∀ (i : Nat) (o : Oper), listed[i]? = some true → ops[i]? = some o → ∀ e ∈ o.after.toList, Region.binds .any e = true → listed[e.on]? = some true
theorem reach_listed {listed : Array Bool} (hc : Closed ops listed) : ∀ (f i k : Nat) (o : Oper), ops[i]? = some o → (∀ e ∈ o.after.toList, Region.binds .any e = true → listed[e.on]? = some true) → reachB ops f i k = true → listed[k]? = some true
 | 0, _, _, _, _, _, h => by simp [reachB] at h
 | f + 1, i, k, o, ho, hd, h => by
   rw [reachB, ho] at h
   simp only [List.any_eq_true, Bool.and_eq_true, Bool.or_eq_true, beq_iff_eq] at h
   obtain ⟨e, he, hb, h⟩ := h
   have hl := hd e he hb
   rcases h with h | h
   · rw [← h]; exact hl
   · cases ho2 : ops[e.on]? with
     | none =>
       cases f with
       | zero => simp [reachB] at h
       | succ f => rw [reachB, ho2] at h; cases h
     | some o2 => exact reach_listed hc f e.on k o2 ho2 (fun e2 he2 hb2 => hc _ _ hl ho2 e2 he2 hb2) h
def tailB (ops : Array Oper) (n1 f : Nat) : Bool := (List.range ops.size).all fun i => decide (i < n1) || (List.range i).all fun k => reachB ops f i k
theorem tail_reach {n1 f : Nat} (h : tailB ops n1 f = true) {i k : Nat} (h1 : n1 ≤ i) (h2 : i < ops.size) (h3 : k < i) : reachB ops f i k = true := by
 unfold tailB at h
 rw [List.all_eq_true] at h
 have := h i (List.mem_range.2 h2)
 rw [Bool.or_eq_true, decide_eq_true_eq] at this
 rcases this with h | h
 · omega
 · rw [List.all_eq_true] at h
   exact h k (List.mem_range.2 h3)
theorem getD_listed {listed : Array Bool} {i : Nat} (h : listed.getD i false = true) : listed[i]? = some true := by
 rw [Array.getD_eq_getD_getElem?] at h
 cases hq : listed[i]? with
 | none => rw [hq] at h; cases h
 | some b => rw [hq] at h; simp at h; rw [h]
theorem mem_ready {listed : Array Bool} {i : Nat} (h : i ∈ Region.ready .any ops listed) : ∃ o, ops[i]? = some o ∧ i < ops.size ∧ (listed.size = ops.size → listed[i]? = some false) ∧ ∀ e ∈ o.after.toList, Region.binds .any e = true → listed[e.on]? = some true := by
 unfold Region.ready at h
 rw [List.mem_filter, List.mem_range] at h
 obtain ⟨hlt, hr⟩ := h
 rw [Array.getElem?_eq_getElem hlt] at hr
 simp only [Option.map_some, Option.getD_some, Bool.and_eq_true, Bool.not_eq_true'] at hr
 obtain ⟨hr1, hr2⟩ := hr
 refine ⟨ops[i], Array.getElem?_eq_getElem hlt, hlt, fun hs => ?_, fun e he hb => ?_⟩
 · rw [Array.getD_eq_getD_getElem?] at hr1
   cases hq : listed[i]? with
   | none => rw [hq] at hr1; cases hr1
   | some b => rw [hq] at hr1; simp at hr1; rw [hr1]
 · rw [Array.all_eq_true] at hr2
   obtain ⟨k, hk, rfl⟩ := Array.mem_iff_getElem.1 (Array.mem_toList_iff.1 he)
   have := hr2 k hk
   rw [hb] at this
   simp only [Bool.not_true, Bool.false_or] at this
   exact getD_listed this
theorem tail_run {n1 f : Nat} (hdep : ∀ (i : Nat) (o : Oper), ops[i]? = some o → ∀ e ∈ o.after.toList, e.on < i) (ht : tailB ops n1 f = true) : ∀ (fuel m : Nat) (listed : Array Bool) (a : Act) (w : World), n1 ≤ m → m ≤ ops.size → listed.size = ops.size → (∀ i, i < m → listed[i]? = some true) → (∀ i, m ≤ i → i < ops.size → listed[i]? = some false) →
  unl listed.toList = fuel → wpOps P ops Q (List.range' m (ops.size - m)) a w → wpAny P .any ops Q fuel listed a w := by
 intro fuel
 induction fuel with
 | zero =>
   intro m listed a w h1 h2 hs hl hr hu hw
   have hm : m = ops.size := by
    by_cases h : m = ops.size
    · exact h
    · have := unl_zero _ hu m false (by rw [Array.getElem?_toList]; exact hr m (Nat.le_refl _) om_)
      cases this
   subst hm
   rw [Nat.sub_self] at hw
   refine ⟨?_, hw⟩
   unfold Region.ready
   rw [List.filter_eq_nil_iff]
   intro i hi
   rw [List.mem_range] at hi
   have e1 : listed.getD i true = true := by rw [Array.getD_eq_getD_getElem?, hl i hi]; rfl
   rw [e1]; simp
 | succ fuel ih =>
   intro m listed a w h1 h2 hs hl hr hu hw
   have hm : m < ops.size := by
    by_cases h : m = ops.size
    · exfalso
      have hz : ∀ (l : List Bool), (∀ (i : Nat), i < l.length → l[i]? = some true) → unl l = 0 := by
       intro l
       induction l with
       | nil => intro _; rfl
       | cons b r ihl =>
         intro hb
         have := hb 0 si_
         simp at this
         subst this
         rw [unl, ihl (fun i hi => by have := hb (i + 1) (by simpa using hi); simpa using this)]; rfl
      have := hz listed.toList (fun i hi => by rw [Array.getElem?_toList]; exact hl i (by rw [Array.length_toList] at hi; omega))
      omega
    · omega
   have hclosed : Closed ops listed := by
    intro i o hi ho e he _
    have hlt := hdep i o ho e he
    have : i < m := by
     by_cases h : i < m
     · exact h
     · have hio : i < ops.size := (Array.getElem?_eq_some_iff.1 ho).1
       rw [hr i om_ hio] at hi
       cases hi
    exact hl _ om_
   refine ⟨fun hn => ?_, fun i hi => ?_⟩
   · have := ready_none hs hdep hn m hm
     rw [hr m (Nat.le_refl _) hm] at this
     cases this
   · obtain ⟨o, ho, hlt, hli, hd⟩ := mem_ready hi
     have hli := hli hs
     have him : i = m := by
      by_cases h : i < m
      · rw [hl i h] at hli; cases hli
      · by_cases h5 : i = m
        · exact h5
        · have := reach_listed hclosed f i m o ho hd (tail_reach ht om_ hlt om_)
          rw [hr m (Nat.le_refl _) hm] at this
          cases this
     subst him
     rw [show ops.size - i = (ops.size - (i + 1)) + 1 by omega, List.range'_succ, wpOps_cons] at hw
     refine wpOp_mono (fun a' w' h => ?_) hw
     refine ih (i + 1) _ a' w' om_ om_ (by simpa using hs) (fun j hj => ?_) (fun j hj hj2 => ?_) ?_ h
     · by_cases hji : j = i
       · subst hji
         rw [Array.getElem?_setIfInBounds_self_of_lt om_]
       · rw [Array.getElem?_setIfInBounds_ne (fun e => hji e.symm)]
         exact hl j om_
     · rw [Array.getElem?_setIfInBounds_ne om_]
       exact hr j om_ hj2
     · have := unl_set listed.toList i (by rw [Array.getElem?_toList]; exact hli)
       rw [Array.toList_setIfInBounds]
       omega
theorem wpOps_run {i : Nat} {rest : List Nat} {o : Oper} {a : Act} {w : World} (ho : ops[i]? = some o) (hg : o.guard = none) (h : ∀ K, (∀ a w, wpOps P ops Q rest a w → K a w) → o.wp P a w K Q) : wpOps P ops Q (i :: rest) a w := by
 rw [wpOps, ho]
 simp only
 rw [if_pos (by simp [Region.wanted, hg])]
 exact .inl (h _ (fun _ _ h => h))
def updV (m : Nat → Option Value) (i : Nat) (v : Value) : Nat → Option Value := fun j => if j = i then some v else m j
def mOf (listed : Array Bool) (vs : List Value) : Nat → Option Value := fun i => if listed[i]? = some true then vs[i]? else none
theorem mOf_set {listed : Array Bool} {vs : List Value} {i : Nat} {v : Value} (h1 : i < listed.size) (h2 : i < vs.length) : mOf (listed.setIfInBounds i true) (vs.set i v) = updV (mOf listed vs) i v := by
 funext j
 unfold mOf updV
 by_cases h : j = i
 · subst h
   rw [if_pos rfl, Array.getElem?_setIfInBounds_self_of_lt h1, if_pos rfl, List.getElem?_set_self h2]
 · rw [if_neg h, Array.getElem?_setIfInBounds_ne (fun e => h e.symm), List.getElem?_set_ne (fun e => h e.symm)]
def StepR (P : Program) (ops : Array Oper) (Q : Exit → Act → World → Prop) (a0 : Act) (w0 : World) (ds : List (Option Nat)) (J : (Nat → Option Value) → World → Prop) (i : Nat) (o : Oper) : Prop :=
 ∀ (a : Act) (w : World) (m : Nat → Option Value), GLT w0 w → (∀ t, some t ∉ ds → a.tmps[t]? = a0.tmps[t]?) → J m w → m i = none →
  (∀ e ∈ o.after.toList, Region.binds .any e = true → ∃ v, m e.on = some v) → (∀ j v d, m j = some v → ds[j]? = some (some d) → a.tmps[d]? = some v) →
    ∀ K : Act → World → Prop, (∀ v w', J (updV m i v) w' → GLT w w' → K (a.put o.dst v) w') →
     if Region.wanted o (yielded ops a.tmps) = true then o.wp P a w K Q else K (a.put o.dst undef) w
theorem wp_region_R {J : (Nat → Option Value) → World → Prop} {id : Nat} (n1 f : Nat) (hn1 : n1 ≤ ops.size) (hm : P.follows .mixedOrders = true) (hds : ds = (ops.toList.take n1).map (·.dst)) (hD : Distinct ds) (hsz : ∀ d, some d ∈ ds → d < a0.tmps.size)
  (hdep : ∀ (i : Nat) (o : Oper), ops[i]? = some o → ∀ e ∈ o.after.toList, e.on < i) (ht : tailB ops n1 f = true)
  (hJ0 : J (fun _ => none) w0.drew)
  (hsteps : ∀ i o, i < n1 → ops[i]? = some o → StepR P ops Q a0 w0.drew ds J i o)
  (hend : ∀ vs w', vs.length = ds.length → J (fun i => vs[i]?) w' → GLT w0.drew w' → wpOps P ops Q (List.range' n1 (ops.size - n1)) { a0 with tmps := setAll a0.tmps ds vs } w') :
  (Code.region id ops true).wp P Q a0 w0 := by
 refine wp_region_any hm ?_
 have hlen : ds.length = n1 := by rw [hds]; simp; omega
 have main : ∀ (fuel : Nat) (listed : Array Bool) (vs : List Value) (w : World), vs.length = ds.length → GLT w0.drew w → listed.size = ops.size → J (mOf listed vs) w → (∀ i, n1 ≤ i → i < ops.size → listed[i]? = some false) → Closed ops listed →
   unl listed.toList = fuel → wpAny P .any ops Q fuel listed { a0 with tmps := setAll a0.tmps ds vs } w := by
  intro fuel
  induction fuel with
  | zero =>
    intro listed vs w h1 h2 h3 h4 h5 hc hu
    have hall : ∀ i, i < n1 → listed[i]? = some true := by
     intro i hi
     have h := unl_zero _ hu i (listed[i]'om_) (by rw [Array.getElem?_toList]; exact Array.getElem?_eq_getElem _)
     rw [Array.getElem?_eq_getElem om_, h]
    exact tail_run hdep ht 0 n1 listed _ w (Nat.le_refl _) hn1 h3 hall h5 hu (hend vs w h1 (by
     have e : mOf listed vs = fun i => vs[i]? := by
      funext i
      unfold mOf
      by_cases hi : i < n1
      · rw [if_pos (hall i hi)]
      · by_cases hq : listed[i]? = some true
        · rw [if_pos hq]
        · rw [if_neg hq, List.getElem?_eq_none om_]
     rw [← e]; exact h4) h2)
  | succ fuel ih =>
    intro listed vs w h1 h2 h3 h4 h5 hc hu
    by_cases hall : ∀ i, i < n1 → listed[i]? = some true
    · exact tail_run hdep ht (fuel + 1) n1 listed _ w (Nat.le_refl _) hn1 h3 hall h5 hu (hend vs w h1 (by
      have e : mOf listed vs = fun i => vs[i]? := by
       funext i
       unfold mOf
       by_cases hi : i < n1
       · rw [if_pos (hall i hi)]
       · by_cases hq : listed[i]? = some true
         · rw [if_pos hq]
         · rw [if_neg hq, List.getElem?_eq_none om_]
      rw [← e]; exact h4) h2)
    · refine ⟨fun hr => absurd (fun i hi => ready_none h3 hdep hr i om_) hall, fun i hi => ?_⟩
      obtain ⟨o, ho, hlt, hli, hd⟩ := mem_ready hi
      have hli := hli h3
      have hin : i < n1 := by
       by_cases h : i < n1
       · exact h
       · exact absurd (fun k hk => reach_listed hc f i k o ho hd (tail_reach ht om_ hlt om_)) hall
      have hdi : ds[i]? = some o.dst := by
       rw [hds, List.getElem?_map, List.getElem?_take_of_lt hin, Array.getElem?_toList, ho]; rfl
      have hmi : mOf listed vs i = none := by unfold mOf; rw [hli]; simp
      have hst := hsteps i o hin ho { a0 with tmps := setAll a0.tmps ds vs } w (mOf listed vs) h2 (fun t ht => setAll_out _ _ _ _ ht) h4 hmi (fun e he hb => by
       have hl := hd e he hb
       have hlt2 := hdep i o ho e he
       unfold mOf
       rw [if_pos hl]
       exact ⟨vs[e.on]'om_, List.getElem?_eq_getElem _⟩) (fun j v d hj hdj => by
       unfold mOf at hj
       split at hj
       · exact setAll_at _ _ _ _ _ _ hD hdj hj (hsz d (List.mem_of_getElem? hdj))
       · cases hj)
      have hnext : ∀ v w', J (updV (mOf listed vs) i v) w' → GLT w w' → wpAny P .any ops Q fuel (listed.setIfInBounds i true) (({ a0 with tmps := setAll a0.tmps ds vs } : Act).put o.dst v) w' := by
       intro v w' hG hg
       have e1 : (({ a0 with tmps := setAll a0.tmps ds vs } : Act).put o.dst v) = { a0 with tmps := setAll a0.tmps ds (vs.set i v) } := by
        cases hd : o.dst with
        | none => rw [hd] at hdi; rw [setAll_none _ _ _ _ _ hdi]; rfl
        | some d =>
          rw [hd] at hdi
          rw [← setAll_set _ _ _ i d v hD hdi om_]; rfl
       rw [e1]
       refine ih _ _ _ (by simpa using h1) (trivial) (by simpa using h3) (by rw [mOf_set om_ om_]; exact hG) (fun j hj1 hj2 => ?_) (fun j oj hj hoj e he hb => ?_) ?_
       · rw [Array.getElem?_setIfInBounds_ne om_]
         exact h5 j hj1 hj2
       · have : listed[e.on]? = some true := by
          by_cases hji : j = i
          · subst hji
            rw [ho] at hoj
            cases hoj
            exact hd e he hb
          · rw [Array.getElem?_setIfInBounds_ne (fun e => hji e.symm)] at hj
            exact hc j oj hj hoj e he hb
         by_cases hei : e.on = i
         · rw [hei, Array.getElem?_setIfInBounds_self_of_lt om_]
         · rw [Array.getElem?_setIfInBounds_ne (fun h => hei h.symm)]
           exact this
       · have := unl_set listed.toList i (by rw [Array.getElem?_toList]; exact hli)
         rw [Array.toList_setIfInBounds]
         omega
      unfold wpOp
      rw [ho]
      have hst2 := hst _ hnext
      simp only
      split
      · rename_i hw
        rw [if_pos hw] at hst2
        exact .inl hst2
      · rename_i hw
        rw [if_neg hw] at hst2
        exact hst2
 have h0 := main (unl (Array.replicate ops.size false).toList) (Array.replicate ops.size false) (firstV a0.tmps ds) w0.drew (by simp [firstV]) trivial si_ (by
  have e : mOf (Array.replicate ops.size false) (firstV a0.tmps ds) = fun _ => none := by
   funext i
   unfold mOf
   rw [if_neg]
   rw [Array.getElem?_replicate]
   split <;> simp
  rw [e]; exact hJ0) (fun i _ hi => by rw [Array.getElem?_replicate, if_pos hi]) (fun i o h => by
  rw [Array.getElem?_replicate] at h
  split at h <;> simp at h) rfl
 rw [setAll_first, Array.toList_replicate, unl_rep] at h0
 exact h0
def StepsRL (P : Program) (ops : Array Oper) (Q : Exit → Act → World → Prop) (a0 : Act) (w0 : World) (ds : List (Option Nat)) (J : (Nat → Option Value) → World → Prop) (n1 : Nat) : Nat → List Oper → Prop
 | _, [] => True
 | i, o :: r => (i < n1 → StepR P ops Q a0 w0 ds J i o) ∧ StepsRL P ops Q a0 w0 ds J n1 (i + 1) r
theorem stepsR_at {J : (Nat → Option Value) → World → Prop} {n1 : Nat} : ∀ (l : List Oper) (k j : Nat) (o : Oper), StepsRL P ops Q a0 w0 ds J n1 k l → k + j < n1 → l[j]? = some o → StepR P ops Q a0 w0 ds J (k + j) o
 | [], _, _, _, _, _, h => by simp at h
 | x :: r, k, 0, o, hs, hn, h => by
   simp only [List.getElem?_cons_zero, Option.some.injEq] at h
   subst h
   exact hs.1 hn
 | x :: r, k, j + 1, o, hs, hn, h => by
   simp only [List.getElem?_cons_succ] at h
   have := stepsR_at r (k + 1) j o hs.2 om_ h
   rwa [show k + 1 + j = k + (j + 1) by omega] at this
theorem stepsR_of {J : (Nat → Option Value) → World → Prop} {n1 : Nat} {l : List Oper} (hs : StepsRL P l.toArray Q a0 w0 ds J n1 0 l) (i : Nat) (o : Oper) (hi : i < n1) (h : l.toArray[i]? = some o) : StepR P l.toArray Q a0 w0 ds J i o := by
 have := stepsR_at l 0 i o hs om_ (by simpa using h)
 rwa [Nat.zero_add] at this
end
end Go.Proofs.YtembdkodajichaaGreatDoor
