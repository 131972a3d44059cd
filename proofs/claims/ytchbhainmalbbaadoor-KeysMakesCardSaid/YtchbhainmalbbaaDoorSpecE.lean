/- The plain functions of the layers 'seed' and 'keys'. No program stands in this text. -/
import Derived.Test.YtchbhainmalbbaaDoorSpecD
namespace Go.Proofs.YtchbhainmalbbaaDoor

def textL (s : List UInt8) : List UInt8 := 116 :: (Lib.decDigits s.length ++ 58 :: s)
theorem textT_ok (s : List UInt8) (h : s.length ≤ 4096) : textT s = (textL s, 0) := by
  unfold textT
  rw [if_neg (by omega)]; rfl
theorem made_ok {l : List UInt8} (h : right l = true) : made l = (l, 0) := by simp [made, h]
theorem made_right {l : List UInt8} (h : (made l).2 = 0) : right (made l).1 = true ∧ made l = (l, 0) := by
  unfold made at h ⊢
  split at h
  · rename_i hr
    exact ⟨by rw [if_pos hr]; exact hr, by rw [if_pos hr]⟩
  · simp at h
theorem textL_len (s : List UInt8) (h : s.length ≤ 4096) : (textL s).length ≤ s.length + 22 ∧ 3 ≤ (textL s).length := by
  have h1 := dec_len20 s.length (by omega)
  have h2 := dec_pos s.length
  simp [textL]; omega
theorem textL_right (s : List UInt8) (h : s.length ≤ 4096) : right (textL s) = true :=
  rtD_right (d := 1) (by omega) (rtD_text s 0 h) (by have := textL_len s h; omega)

/-- A label: a word and a number. -/
def labelT (w : List UInt8) (n : Nat) : List UInt8 := 84 :: (Lib.decDigits 2 ++ 58 :: cat [textL w, textL (Lib.decDigits n)])
theorem label_facts (w : List UInt8) (n : Nat) (hw : w.length ≤ 100) (hn : n ≤ 9223372036854775807) :
    textT w = (textL w, 0) ∧ textT (Lib.decDigits n) = (textL (Lib.decDigits n), 0) ∧ right (textL w) = true ∧ right (textL (Lib.decDigits n)) = true ∧
    tupleT [textL w, textL (Lib.decDigits n)] = (labelT w n, 0) ∧ right (labelT w n) = true ∧ (labelT w n).length ≤ 200 := by
  have hd := dec_len20 n (by omega)
  have h1 := textL_right w (by omega)
  have h2 := textL_right (Lib.decDigits n) (by omega)
  have l1 := textL_len w (by omega)
  have l2 := textL_len (Lib.decDigits n) (by omega)
  have l0 := dec_len20 2 (by omega)
  have hlen : (labelT w n).length ≤ 200 := by
    simp [labelT, cat]; omega
  have hr : right (labelT w n) = true := by
    refine rtD_right (d := 2) (by omega) ?_ (by omega)
    refine rtD_tuple 1 [textL w, textL (Lib.decDigits n)] (by simp) ?_
    intro a ha
    simp at ha
    rcases ha with rfl | rfl
    · exact rtD_text w 0 (by omega)
    · exact rtD_text _ 0 (by omega)
  refine ⟨textT_ok w (by omega), textT_ok _ (by omega), h1, h2, ?_, hr, hlen⟩
  unfold tupleT
  rw [if_neg (by simp), if_pos (by simp [h1, h2])]
  exact made_ok hr

def childT (root w : List UInt8) (n : Nat) : List UInt8 × Int := twoT 68 root (labelT w n)
def nodeT (root : List UInt8) : List UInt8 × Int := childT root [110, 111, 100, 101] 0
def coinT (root : List UInt8) (n : Int) : List UInt8 × Int := if n < 0 then ([], 2) else childT root [99, 111, 105, 110] n.toNat

/-- A row of answers: all, or the first error. -/
def manyT {α : Type} (f : α → List UInt8 × Int) : List α → List (List UInt8) × Int
  | [] => ([], 0)
  | a :: r => if (f a).2 = 0 then (if (manyT f r).2 = 0 then ((f a).1 :: (manyT f r).1, 0) else ([], (manyT f r).2)) else ([], (f a).2)
def wordsT : List (List UInt8) := [[102, 117, 110, 100], [114, 101, 118], [112, 97, 121], [108, 97, 116, 101, 114], [104, 116, 108, 99], [115, 101, 101, 100]]
def channelT (root : List UInt8) (n : Int) : List (List UInt8) × Int :=
  if n < 0 then ([], 2) else
    if (childT root [99, 104, 97, 110, 110, 101, 108] n.toNat).2 = 0 then manyT (fun w => childT (childT root [99, 104, 97, 110, 110, 101, 108] n.toNat).1 w 0) wordsT
    else ([], (childT root [99, 104, 97, 110, 110, 101, 108] n.toNat).2)

/-- Six secrets, as a struct. -/
def secV (l : List (List UInt8)) : Value := .agg #[.string (bs (l.getD 0 [])), .string (bs (l.getD 1 [])), .string (bs (l.getD 2 [])), .string (bs (l.getD 3 [])), .string (bs (l.getD 4 [])), .string (bs (l.getD 5 []))]

/-- From a secret on, by the lowest k bits of a place. -/
def onT (i : Nat) : Nat → List UInt8 → List UInt8 × Int
  | 0, t => (t, 0)
  | k + 1, t => if i / 2 ^ k % 2 = 0 then onT i k t else if (twoT 68 t (textL (Lib.decDigits k))).2 = 0 then onT i k (twoT 68 t (textL (Lib.decDigits k))).1 else ([], (twoT 68 t (textL (Lib.decDigits k))).2)
def secretT (seed : List UInt8) (i : Int) : List UInt8 × Int :=
  if i < 0 ∨ 1048575 < i then ([], 2) else if right seed = true then onT i.toNat 20 seed else ([], 10)

theorem made_len (l : List UInt8) : (made l).1.length ≤ 16384 := by
  unfold made
  split
  · rename_i h; exact (right_len h).2
  · simp
theorem twoT_len (c : UInt8) (a b : List UInt8) : (twoT c a b).1.length ≤ 16384 := by
  unfold twoT
  split
  · exact made_len _
  · simp

end Go.Proofs.YtchbhainmalbbaaDoor
