/- The document's layer 21, plain: it answers as the program does. No program stands in this text. -/
import Derived.Test.YtaaiaahkakkleaaGreatDoorMSes
set_option linter.unusedSimpArgs false
set_option linter.unusedVariables false
namespace Go.Proofs.YtaaiaahkakkleaaGreatDoor
open Go.RowKit
theorem made_bad {l : List UInt8} (h : (made l).2 ≠ 0) : (made l).1 = [] := by
 unfold made at h ⊢
 split
 · rename_i hr; rw [if_pos hr] at h; exact absurd rfl h
 · rfl
theorem made_good {l : List UInt8} (h : (made l).2 = 0) : (made l).1 ≠ [] := by
 unfold made at h ⊢
 split
 · rename_i hr
   intro h0
   have h0 : l = [] := h0
   rw [h0] at hr
   simp [right, rt, rd] at hr
 · rename_i hr; rw [if_neg hr] at h; simp at h
theorem twoT_bad {c : UInt8} {a b : List UInt8} (h : (twoT c a b).2 ≠ 0) : (twoT c a b).1 = [] := by
 unfold twoT at h ⊢
 split
 · rename_i hr; rw [if_pos hr] at h; exact made_bad h
 · rfl
theorem twoT_good {c : UInt8} {a b : List UInt8} (h : (twoT c a b).2 = 0) : (twoT c a b).1 ≠ [] := by
 unfold twoT at h ⊢
 split
 · rename_i hr; rw [if_pos hr] at h; exact made_good h
 · rename_i hr; rw [if_neg hr] at h; simp at h
theorem oneT_bad {c : UInt8} {a : List UInt8} (h : (oneT c a).2 ≠ 0) : (oneT c a).1 = [] := by
 unfold oneT at h ⊢
 split
 · rename_i hr; rw [if_pos hr] at h; exact made_bad h
 · rfl
theorem oneT_good {c : UInt8} {a : List UInt8} (h : (oneT c a).2 = 0) : (oneT c a).1 ≠ [] := by
 unfold oneT at h ⊢
 split
 · rename_i hr; rw [if_pos hr] at h; exact made_good h
 · rename_i hr; rw [if_neg hr] at h; simp at h
theorem tupleT_bad {ls : List (List UInt8)} (h : (tupleT ls).2 ≠ 0) : (tupleT ls).1 = [] := by
 unfold tupleT at h ⊢
 split
 · rfl
 · rename_i h1
   rw [if_neg h1] at h
   split
   · rename_i hr; rw [if_pos hr] at h; exact made_bad h
   · rfl
theorem tupleT_good {ls : List (List UInt8)} (h : (tupleT ls).2 = 0) : (tupleT ls).1 ≠ [] ∧ ∀ a ∈ ls, a ≠ [] := by
 unfold tupleT at h ⊢
 split
 · rename_i h1; rw [if_pos h1] at h; simp at h
 · rename_i h1
   rw [if_neg h1] at h
   split
   · rename_i hr
     rw [if_pos hr] at h
     refine ⟨made_good h, fun a ha h0 => ?_⟩
     have := List.all_eq_true.1 hr a ha
     rw [h0] at this
     simp [right, rt, rd] at this
   · rename_i hr; rw [if_neg hr] at h; simp at h
theorem oneT_nil (c : UInt8) : (oneT c []).1 = [] := by
 unfold oneT
 rw [if_neg (by simp [right, rt, rd])]
theorem twoT_parts {c : UInt8} {a b : List UInt8} (h : (twoT c a b).2 = 0) : a ≠ [] ∧ b ≠ [] := by
 unfold twoT at h
 split at h
 · rename_i hr
   constructor <;> intro h0 <;> (rw [h0] at hr; simp [right, rt, rd] at hr)
 · simp at h
theorem agreeT_bad {k p : List UInt8} (h : (agreeT k p).2 ≠ 0) : (agreeT k p).1 = [] := by
 unfold agreeT at h ⊢
 repeat' split
 all_goals first
  | rfl
  | (apply twoT_bad; simp_all)
theorem agreeT_good {k p : List UInt8} (h : (agreeT k p).2 = 0) : (agreeT k p).1 ≠ [] := by
 unfold agreeT at h ⊢
 repeat' split
 all_goals first
  | (exfalso; simp_all; done)
  | (apply twoT_good; simp_all)
theorem mkE_zero {a b : Int} : mkE a b = 0 ↔ a = 0 ∧ b = 0 := by
 unfold mkE
 split
 · rename_i h; simp [h]
 · rename_i h; simp [h]
def hashR (a b : List UInt8) : List UInt8 := (oneT 72 (tupleT [a, b]).1).1
def agreeR (k p : List UInt8) : List UInt8 := (agreeT k p).1
def actR (p k : List UInt8) : List UInt8 := (tupleT [p, (twoT 66 k boxE).1]).1
theorem hashM_one (fe : Int) (a b : List UInt8) : (hashM fe a b).1 = hashR a b := rfl
theorem agreeM_one (fe : Int) (a b : List UInt8) : (agreeM fe a b).1 = agreeR a b := rfl
theorem actM_one (fe : Int) (a b : List UInt8) : (actM fe a b).1 = actR a b := rfl
theorem hashM_err (fe : Int) (a b : List UInt8) : (hashM fe a b).2 = 0 ↔ fe = 0 ∧ hashR a b ≠ [] := by
 show mkE (mkE fe (tupleT [a, b]).2) (oneT 72 (tupleT [a, b]).1).2 = 0 ↔ _
 rw [mkE_zero, mkE_zero]
 constructor
 · rintro ⟨⟨h1, _⟩, h3⟩
   exact ⟨h1, oneT_good h3⟩
 · rintro ⟨h1, h2⟩
   refine ⟨⟨h1, Classical.byContradiction fun h => h2 ?_⟩, Classical.byContradiction fun h => h2 (oneT_bad h)⟩
   show (oneT 72 (tupleT [a, b]).1).1 = []
   rw [tupleT_bad h, oneT_nil]
theorem agreeM_err (fe : Int) (a b : List UInt8) : (agreeM fe a b).2 = 0 ↔ fe = 0 ∧ agreeR a b ≠ [] := by
 show mkE fe (agreeT a b).2 = 0 ↔ _
 rw [mkE_zero]
 exact ⟨fun h => ⟨h.1, agreeT_good h.2⟩, fun h => ⟨h.1, Classical.byContradiction fun h2 => h.2 (agreeT_bad h2)⟩⟩
theorem actR_parts {p k : List UInt8} (h : actR p k ≠ []) : (twoT 66 k boxE).2 = 0 ∧ (tupleT [p, (twoT 66 k boxE).1]).2 = 0 := by
 have h1 : (tupleT [p, (twoT 66 k boxE).1]).2 = 0 := Classical.byContradiction fun h2 => h (tupleT_bad h2)
 refine ⟨Classical.byContradiction fun h2 => ?_, h1⟩
 exact (tupleT_good h1).2 _ si_ (twoT_bad h2)
theorem actM_err (fe : Int) (p k : List UInt8) : (actM fe p k).2 = 0 ↔ fe = 0 ∧ actR p k ≠ [] := by
 show mkE (mkE fe (twoT 66 k boxE).2) (tupleT [p, (twoT 66 k boxE).1]).2 = 0 ↔ _
 rw [mkE_zero, mkE_zero]
 exact ⟨fun h => ⟨h.1.1, (tupleT_good h.2).1⟩, fun h => ⟨⟨h.1, (actR_parts h.2).1⟩, (actR_parts h.2).2⟩⟩
theorem hashR_parts {a b : List UInt8} (h : hashR a b ≠ []) : a ≠ [] ∧ b ≠ [] := by
 have h1 : (tupleT [a, b]).2 = 0 := Classical.byContradiction fun h2 => h (by unfold hashR; rw [tupleT_bad h2, oneT_nil])
 have := (tupleT_good h1).2
 exact ⟨this a si_, this b si_⟩
theorem actR_key {p k : List UInt8} (h : actR p k ≠ []) : k ≠ [] := (twoT_parts (actR_parts h).1).1
theorem firstB_ne {t : List UInt8} (h : (firstB t).2 = true) : t ≠ [] := by
 intro h0
 rw [h0] at h
 simp [firstB, rt, rd] at h
def oneR (own drawn t : List UInt8) : Option (List UInt8 × List UInt8) :=
 if (firstB t).2 = false then none else
  let p := (firstB t).1
  let k1 := hashR (agreeR own p) (pubT own).1
  let k2 := hashR k1 (agreeR drawn p)
  if actR (pubT drawn).1 k2 = [] ∨ t ≠ actR p k1 then none else some (k2, actR (pubT drawn).1 k2)
theorem one_same (own drawn t : List UInt8) : oneR own drawn t = oneM own drawn t := by
 unfold oneR oneM
 by_cases h0 : (firstB t).2 = false
 · rw [if_pos h0, if_pos h0]
 rw [if_neg h0, if_neg h0]
 have ht := firstB_ne (by simpa using h0)
 simp only [hashM_one, agreeM_one, actM_one, show (secretB own).1 = (pubT own).1 from rfl, show (secretB drawn).1 = (pubT drawn).1 from rfl]
 refine ite_congr (propext ?_) (fun _ => rfl) (fun _ => rfl)
 generalize (firstB t).1 = p
 constructor
 · rintro (h | h)
   · exact .inl (fun h2 => ((actM_err _ _ _).1 h2).2 h)
   · exact .inr h
 · rintro (h | h)
   · by_cases h2 : t = actR p (hashR (agreeR own p) (pubT own).1)
     · refine .inl (Classical.byContradiction fun h3 => h ?_)
       have e1 := hashR_parts (actR_key h3)
       have e2 := hashR_parts e1.1
       rw [actM_err, actM_err, hashM_err, agreeM_err, hashM_err, agreeM_err]
       exact ⟨⟨⟨⟨⟨⟨rfl, e2.1⟩, e1.1⟩, e1.2⟩, actR_key h3⟩, by rw [← h2]; exact ht⟩, h3⟩
     · exact .inr h2
   · exact .inr h
def keysR (k3 : List UInt8) : (List UInt8 × List UInt8) × Bool := (((twoT 68 k3 (textT lDial).1).1, (twoT 68 k3 (textT lListen).1).1), (twoT 68 k3 (textT lDial).1).2 == 0 && (twoT 68 k3 (textT lListen).1).2 == 0)
theorem keysR_one (fe : Int) (k3 : List UInt8) : (opensM fe k3).1 = (keysR k3).1 := rfl
theorem keysR_err (fe : Int) (k3 : List UInt8) : (opensM fe k3).2 = 0 ↔ fe = 0 ∧ (keysR k3).2 = true := by
 show mkE (mkE (mkE (mkE fe (textT lDial).2) (twoT 68 k3 (textT lDial).1).2) (textT lListen).2) (twoT 68 k3 (textT lListen).1).2 = 0 ↔ _
 rw [mkE_zero, mkE_zero, mkE_zero, mkE_zero, show (textT lDial).2 = 0 from rfl, show (textT lListen).2 = 0 from rfl]
 unfold keysR
 simp only [Bool.and_eq_true, beq_iff_eq]
 constructor
 · rintro ⟨⟨⟨⟨h1, _⟩, h2⟩, _⟩, h3⟩; exact ⟨h1, h2, h3⟩
 · rintro ⟨h1, h2, h3⟩; exact ⟨⟨⟨⟨h1, by first | rfl | trivial⟩, h2⟩, by first | rfl | trivial⟩, h3⟩
theorem keysR_key {k3 : List UInt8} (h : (keysR k3).2 = true) : k3 ≠ [] := by
 unfold keysR at h
 simp only [Bool.and_eq_true, beq_iff_eq] at h
 exact (twoT_parts h.1).1
def twoR (own drawn key t : List UInt8) : Option ((List UInt8 × List UInt8) × List UInt8) :=
 if (firstB t).2 = false then none else
  let p := (firstB t).1
  let k2 := hashR key (agreeR drawn p)
  let k3 := hashR k2 (agreeR own p)
  let inn := actR (pubT own).1 k3
  if t ≠ actR p k2 ∨ (twoT 66 k2 inn).2 ≠ 0 ∨ (keysR k3).2 = false then none else some ((keysR k3).1, (twoT 66 k2 inn).1)
theorem two_same (own drawn key t : List UInt8) : twoR own drawn key t = if (twoM own drawn key t).1 = 2 then some (twoM own drawn key t).2 else none := by
 unfold twoR twoM
 by_cases h0 : (firstB t).2 = false
 · rw [if_pos h0, if_pos h0]; rfl
 rw [if_neg h0, if_neg h0]
 have ht := firstB_ne (by simpa using h0)
 simp only [hashM_one, agreeM_one, actM_one, show (secretB own).1 = (pubT own).1 from rfl, keysR_one]
 generalize (firstB t).1 = p
 generalize hk2 : hashR key (agreeR drawn p) = k2
 generalize hk3 : hashR k2 (agreeR own p) = k3
 have key1 : (opensM (mkE (actM (actM (hashM (agreeM (hashM (agreeM 0 drawn p).2 key (agreeR drawn p)).2 own p).2 k2 (agreeR own p)).2 p k2).2 (pubT own).1 k3).2 (twoT 66 k2 (actR (pubT own).1 k3)).2) k3).2 = 0 ↔
   (agreeR drawn p ≠ [] ∧ k2 ≠ [] ∧ agreeR own p ≠ [] ∧ k3 ≠ [] ∧ actR p k2 ≠ [] ∧ actR (pubT own).1 k3 ≠ []) ∧ (twoT 66 k2 (actR (pubT own).1 k3)).2 = 0 ∧ (keysR k3).2 = true := by
  rw [keysR_err, mkE_zero, actM_err, actM_err, hashM_err, agreeM_err, hashM_err, agreeM_err, hk2, hk3]
  constructor
  · rintro ⟨⟨⟨⟨⟨⟨⟨⟨_, a⟩, b⟩, c⟩, d⟩, e⟩, f⟩, g⟩, h⟩; exact ⟨⟨a, b, c, d, e, f⟩, g, h⟩
  · rintro ⟨⟨a, b, c, d, e, f⟩, g, h⟩; exact ⟨⟨⟨⟨⟨⟨⟨⟨rfl, a⟩, b⟩, c⟩, d⟩, e⟩, f⟩, g⟩, h⟩
 generalize (opensM (mkE (actM (actM (hashM (agreeM (hashM (agreeM 0 drawn p).2 key (agreeR drawn p)).2 own p).2 k2 (agreeR own p)).2 p k2).2 (pubT own).1 k3).2 (twoT 66 k2 (actR (pubT own).1 k3)).2) k3).2 = z at key1 ⊢
 by_cases hw : t = actR p k2
 · by_cases hok : (twoT 66 k2 (actR (pubT own).1 k3)).2 = 0 ∧ (keysR k3).2 = true
   · have p1 := twoT_parts hok.1
     have p2 := keysR_key hok.2
     have p3 := hashR_parts (show hashR k2 (agreeR own p) ≠ [] by rw [hk3]; exact p2)
     have p4 := hashR_parts (show hashR key (agreeR drawn p) ≠ [] by rw [hk2]; exact p3.1)
     have hz : z = 0 := key1.2 ⟨⟨p4.2, p3.1, p3.2, p2, by rw [← hw]; exact ht, p1.2⟩, hok⟩
     rw [if_neg (by rintro (h | h | h); exact h hw; exact h hok.1; rw [hok.2] at h; cases h)]
     simp [hz, hw]
   · have hz : z ≠ 0 := fun h => hok (key1.1 h).2
     rw [if_pos (by
      by_cases h1 : (twoT 66 k2 (actR (pubT own).1 k3)).2 = 0
      · refine .inr (.inr ?_)
        cases h2 : (keysR k3).2 with
        | false => rfl
        | true => exact absurd ⟨h1, h2⟩ hok
      · exact .inr (.inl h1))]
     simp [hz]
 · rw [if_pos (.inl hw)]
   by_cases hz : z = 0 <;> simp [hz, hw]
def threeR (drawn key t : List UInt8) : Option ((List UInt8 × List UInt8) × List UInt8) :=
 if (unboxT key t).2 = false ∨ (firstB (unboxT key t).1).2 = false then none else
  let inn := (unboxT key t).1
  let p := (firstB inn).1
  let k3 := hashR key (agreeR drawn p)
  if inn ≠ actR p k3 ∨ (keysR k3).2 = false then none else some ((keysR k3).1, p)
theorem three_same (drawn key t : List UInt8) : threeR drawn key t = if (threeM drawn key t).1 = 2 then some (threeM drawn key t).2 else none := by
 have hub : (unboxT key t).2 = false → (firstB (unboxT key t).1).2 = false := fun h => by
  have : (unboxT key t).1 = [] := by
   unfold unboxT at h ⊢
   repeat' split
   all_goals first
    | rfl
    | (exfalso; simp_all; done)
  rw [this]; simp [firstB, rt, rd]
 by_cases h0 : (firstB (unboxT key t).1).2 = false
 · unfold threeR threeM
   rw [if_pos (.inr h0), if_pos h0]; rfl
 have ht := firstB_ne (show (firstB (unboxT key t).1).2 = true by simpa using h0)
 obtain ⟨p, hp⟩ : ∃ p, (firstB (unboxT key t).1).1 = p := ⟨_, rfl⟩
 obtain ⟨k3, hk3⟩ : ∃ k, hashR key (agreeR drawn p) = k := ⟨_, rfl⟩
 have e3 : threeR drawn key t = if (unboxT key t).1 ≠ actR p k3 ∨ (keysR k3).2 = false then none else some ((keysR k3).1, p) := by
  unfold threeR
  rw [if_neg (fun h => h0 (h.elim hub id))]
  simp only [hp, hk3]
 have key1 : (opensM (actM (hashM (agreeM 0 drawn p).2 key (agreeM 0 drawn p).1).2 p (hashM (agreeM 0 drawn p).2 key (agreeM 0 drawn p).1).1).2 (hashM (agreeM 0 drawn p).2 key (agreeM 0 drawn p).1).1).2 = 0 ↔ (agreeR drawn p ≠ [] ∧ k3 ≠ [] ∧ actR p k3 ≠ []) ∧ (keysR k3).2 = true := by
  rw [keysR_err, actM_err, hashM_err, agreeM_err, hashM_one, agreeM_one, hk3]
  constructor
  · rintro ⟨⟨⟨⟨_, a⟩, b⟩, c⟩, d⟩; exact ⟨⟨a, b, c⟩, d⟩
  · rintro ⟨⟨a, b, c⟩, d⟩; exact ⟨⟨⟨⟨rfl, a⟩, b⟩, c⟩, d⟩
 obtain ⟨z, hz⟩ : ∃ z, (opensM (actM (hashM (agreeM 0 drawn p).2 key (agreeM 0 drawn p).1).2 p (hashM (agreeM 0 drawn p).2 key (agreeM 0 drawn p).1).1).2 (hashM (agreeM 0 drawn p).2 key (agreeM 0 drawn p).1).1).2 = z := ⟨_, rfl⟩
 have e4 : threeM drawn key t = if z ≠ 0 then (0, (([], []), [])) else if (unboxT key t).1 ≠ actR p k3 then (1, ((keysR k3).1, [])) else (2, ((keysR k3).1, p)) := by
  unfold threeM
  rw [if_neg h0]
  have hz2 : (opensM (actM (hashM (agreeM 0 drawn p).2 key (agreeR drawn p)).2 p k3).2 k3).2 = z := by rw [← hk3]; exact hz
  simp only [hp, actM_one, keysR_one, hashM_one, agreeM_one, hk3, hz2]
 rw [hz] at key1
 rw [e3, e4]
 by_cases hw : (unboxT key t).1 = actR p k3
 · cases hok : (keysR k3).2 with
   | true =>
     have p2 := keysR_key hok
     have p3 := hashR_parts (show hashR key (agreeR drawn p) ≠ [] by rw [hk3]; exact p2)
     have hz0 : z = 0 := key1.2 ⟨⟨p3.2, p2, by rw [← hw]; exact ht⟩, hok⟩
     simp [hz0, hw]
   | false =>
     have hz0 : z ≠ 0 := fun h => by have := (key1.1 h).2; rw [hok] at this; cases this
     simp [hz0]
 · by_cases hz0 : z = 0 <;> simp [hz0, hw]
theorem dial_same (own drawn peer : List UInt8) : dialM own drawn peer = (if (secretB own).2 = false ∨ (secretB drawn).2 = false ∨ plainB peer = false then (([], []), 10) else
  if actR (pubT drawn).1 (hashR (agreeR drawn peer) peer) = [] then (([], []), 3) else ((hashR (agreeR drawn peer) peer, actR (pubT drawn).1 (hashR (agreeR drawn peer) peer)), 0)) := by
 unfold dialM
 refine ite_congr rfl (fun _ => rfl) (fun _ => ?_)
 simp only [hashM_one, agreeM_one, actM_one, show (secretB drawn).1 = (pubT drawn).1 from rfl]
 have key1 : (actM (hashM (agreeM 0 drawn peer).2 (agreeR drawn peer) peer).2 (pubT drawn).1 (hashR (agreeR drawn peer) peer)).2 = 0 ↔ actR (pubT drawn).1 (hashR (agreeR drawn peer) peer) ≠ [] := by
  rw [actM_err, hashM_err, agreeM_err]
  constructor
  · exact fun h => h.2
  · intro h
    have p1 := actR_key h
    exact ⟨⟨⟨rfl, (hashR_parts p1).1⟩, p1⟩, h⟩
 generalize (actM (hashM (agreeM 0 drawn peer).2 (agreeR drawn peer) peer).2 (pubT drawn).1 (hashR (agreeR drawn peer) peer)).2 = z at key1 ⊢
 by_cases hz : actR (pubT drawn).1 (hashR (agreeR drawn peer) peer) = []
 · have : z ≠ 0 := fun h => key1.1 h hz
   rw [if_pos this, if_pos hz]
 · have : z = 0 := key1.2 hz
   rw [if_neg (by rw [this]; simp), if_neg hz]
theorem plainB_is (p : List UInt8) : plainB p = (right p && head p == 80) := by
 unfold plainB right
 cases h : rt p with
 | none => rfl
 | some s =>
   have := head_op h
   simp only [Option.isSome_some, Bool.true_and]
   rw [← this, Bool.eq_iff_iff, beq_iff_eq, beq_iff_eq, ← UInt8.toNat_inj]
   rfl
theorem made_rt {l : List UInt8} (h : (made l).2 = 0) : right (made l).1 = true := by
 unfold made at h ⊢
 split
 · rename_i hr; exact hr
 · rename_i hr; rw [if_neg hr] at h; simp at h
theorem pubT_rt {l : List UInt8} (h : (pubT l).2 = 0) : right (pubT l).1 = true := by
 unfold pubT at h ⊢
 split
 · rename_i hr; rw [if_pos hr] at h; exact made_rt h
 · rename_i hr; rw [if_neg hr] at h; simp at h
theorem onM_same (key : List UInt8) (c : Nat) (hc : c ≤ 99) : onM key c = if c < 99 then (key, c + 1) else ((twoT 68 key (textT lNext).1).1, 0) := by
 unfold onM
 by_cases h : c < 99
 · rw [if_neg om_, if_pos h]
 · rw [if_pos om_, if_neg h]; rfl
end Go.Proofs.YtaaiaahkakkleaaGreatDoor
